/- Written by a program of this claim's author (xprint.py, over the kit's print.py): the call of mapmaker/turns.Pieces comes to what the Lean function of its name says. -/
import Derived.Test.YtaodlehnfjalnaaPrint0
import Derived.Test.YtaodlehnfjalnaaM11
import Derived.Test.YtaodlehnfjalnaaM0
namespace Go.Proofs.Ytaodlehnfjalnaa.Print
open Go.RowKit Go.Proofs.YtaodlehnfjalnaaW.PrintWords Go.Proofs.YtaodlehnfjalnaaW.PrintLast Go.Proofs.YtaodlehnfjalnaaW.PrintMore
attribute [local go_sem] max2_int min2_int max_two min_two max_three min_three max_four min_four   -- for this text's walks alone
set_option linter.unusedVariables false
set_option linter.unusedSimpArgs false
/-! ### turns_Pieces: function 25 -/
mutual
def turns_Pieces.l0 : Nat → Int → Int → List Int → Int → List Int → Int → Int → Int → List (S92) → Option (List Int × Bool)
 | 0, _, _, _, _, _, _, _, _, _ => none
 | k + 1, x9, x10, x11, x12, x25, x26, x27, x255000, x255001 => if x27 < x26 then (if 0 ≤ x27 then (if x27 < (x25.length : Int) then (if (rd x25 x27) < 0 then (turns_Pieces.j1 k x9 x10 x11 x12 x27 (rd x25 x27) x25 x26 x27 true x255000 x255001) else (turns_Pieces.j1 k x9 x10 x11 x12 x27 (rd x25 x27) x25 x26 x27 (decide ((rd x25 x27) ≥ (x255001.length : Int))) x255000 x255001)) else (none)) else (none)) else (if x12 < (wrap64 (x9 + x10)) then (some (([] : List Int), false)) else (some (x11, true)))
def turns_Pieces.j1 : Nat → Int → Int → List Int → Int → Int → Int → List Int → Int → Int → Bool → Int → List (S92) → Option (List Int × Bool)
 | 0, _, _, _, _, _, _, _, _, _, _, _, _ => none
 | k + 1, x9, x10, x11, x12, x13, x14, x25, x26, x27, x40, x255000, x255001 => if x40 = true then (some (([] : List Int), false)) else (if 0 ≤ x14 then (if x14 < (x255001.length : Int) then (if x13 = 0 then (if ((rd_T92 x255001 x14).f0) < x9 then (turns_Pieces.j2 k x9 x10 x11 x25 x26 x27 true x255000 x255001 ((rd_T92 x255001 x14).f0) ((rd_T92 x255001 x14).f1)) else (if ((rd_T92 x255001 x14).f0) ≥ (wrap64 (x9 + x10)) then (turns_Pieces.j2 k x9 x10 x11 x25 x26 x27 true x255000 x255001 ((rd_T92 x255001 x14).f0) ((rd_T92 x255001 x14).f1)) else (if x13 > 0 then (turns_Pieces.j2 k x9 x10 x11 x25 x26 x27 (((rd_T92 x255001 x14).f0) != x12) x255000 x255001 ((rd_T92 x255001 x14).f0) ((rd_T92 x255001 x14).f1)) else (turns_Pieces.j2 k x9 x10 x11 x25 x26 x27 false x255000 x255001 ((rd_T92 x255001 x14).f0) ((rd_T92 x255001 x14).f1))))) else (if x13 > 0 then (turns_Pieces.j2 k x9 x10 x11 x25 x26 x27 (((rd_T92 x255001 x14).f0) != x12) x255000 x255001 ((rd_T92 x255001 x14).f0) ((rd_T92 x255001 x14).f1)) else (turns_Pieces.j2 k x9 x10 x11 x25 x26 x27 false x255000 x255001 ((rd_T92 x255001 x14).f0) ((rd_T92 x255001 x14).f1)))) else (none)) else (none))
def turns_Pieces.j2 : Nat → Int → Int → List Int → List Int → Int → Int → Bool → Int → List (S92) → Int → Int → Option (List Int × Bool)
 | 0, _, _, _, _, _, _, _, _, _, _, _ => none
 | k + 1, x9, x10, x11, x25, x26, x27, x71, x255000, x255001, x258000, x258001 => if x71 = true then (some (([] : List Int), false)) else (if x258001 < x9 then (if x11.length < 17592186044416 then (turns_Pieces.l0 k x9 x10 (x11 ++ [x258001]) x258001 x25 x26 (wrap64 (x27 + 1)) x255000 x255001) else (none)) else (turns_Pieces.l0 k x9 x10 x11 x258001 x25 x26 (wrap64 (x27 + 1)) x255000 x255001))
end
def turns_Pieces.f (k : Nat) (l0_0 : List Int) (l0_1 : List (S158)) (l0_2 : List (S58)) (l1 : List Int) (l2 : List (S42)) : Option (List Int × Bool) := (turns_Expand.f l0_0 l0_1 l0_2 l2).bind fun bt250 => (turns_Pieces.l0 k (l0_2.length : Int) (l0_0.length : Int) ([] : List Int) (-1) l1 (l1.length : Int) 0 bt250.1 bt250.2)
set_option maxHeartbeats 8000000 in
set_option maxRecDepth 100000 in
theorem turns_Pieces.calls (k : Nat) (A0_0 : Option Addr) (c0_0 : Nat) (l0_0 : List Int) (A0_1 : Option Addr) (c0_1 : Nat) (l0_1 : List (S158)) (A0_2 : Option Addr) (c0_2 : Nat) (l0_2 : List (S58)) (A1 : Option Addr) (c1 : Nat) (l1 : List Int) (A2 : Option Addr) (c2 : Nat) (l2 : List (S42)) (r1 : List Int) (r2 : Bool) (w : World) (hr0_0 : Kd.C (Kd.int .i64) w A0_0 l0_0.length l0_0) (hc0_0 : l0_0.length ≤ c0_0) (hr0_1 : Kd.C k158 w A0_1 l0_1.length l0_1) (hc0_1 : l0_1.length ≤ c0_1) (hr0_2 : Kd.C k58 w A0_2 l0_2.length l0_2) (hc0_2 : l0_2.length ≤ c0_2) (hr1 : Kd.C (Kd.int .i64) w A1 l1.length l1) (hc1 : l1.length ≤ c1) (hr2 : Kd.C k42 w A2 l2.length l2) (hc2 : l2.length ≤ c2) (h : turns_Pieces.f k l0_0 l0_1 l0_2 l1 l2 = some (r1, r2)) :
  Calls Try.prog 25 #[.agg #[.slice A0_0 l0_0.length c0_0, .slice A0_1 l0_1.length c0_1, .slice A0_2 l0_2.length c0_2], .slice A1 l1.length c1, .slice A2 l2.length c2] w fun e w' => ∃ v0_ : Value, e = .returned (.tuple #[v0_, .bool r2]) ∧ Kd.R (Kd.int .i64) 3 w' w.heap.size (fun _ => True) v0_ r1 ∧ Below w.heap.size w w' := by
 have hu37 := Try.underlying37; have hu51 := Try.underlying51; have hu92 := Try.underlying92; have HR0_0 := Aside0.mk hr0_0; have HC0_0 := Aside0.mk hc0_0; clear hr0_0 hc0_0; have HR0_1 := Aside0.mk hr0_1; have HC0_1 := Aside0.mk hc0_1; clear hr0_1 hc0_1; have HR0_2 := Aside0.mk hr0_2; have HC0_2 := Aside0.mk hc0_2; clear hr0_2 hc0_2; have HR1 := Aside0.mk hr1; have HC1 := Aside0.mk hc1; clear hr1 hc1; have HR2 := Aside0.mk hr2; have HC2 := Aside0.mk hc2; clear hr2 hc2; have HB := Aside0.mk (Below.refl w.heap.size w)
 have H : ((turns_Expand.f l0_0 l0_1 l0_2 l2).bind fun bt250 => (turns_Pieces.l0 k (l0_2.length : Int) (l0_0.length : Int) ([] : List Int) (-1) l1 (l1.length : Int) 0 bt250.1 bt250.2)) = some (r1, r2) := h
 clear h
 replace H := Option.bind_eq_some_iff.mp H
 obtain ⟨⟨t250, t251⟩, A40, H⟩ := H
 replace H : (turns_Pieces.l0 k (l0_2.length : Int) (l0_0.length : Int) ([] : List Int) (-1) l1 (l1.length : Int) 0 t250 t251) = some (r1, r2) := H
 have A4 := Aside0.mk A40; clear A40
 have H' := Aside0.mk H
 clear H
 go_enter Try.func25, Try.ntmps25
 go_wp2_with (first | ((with_reducible refine gate_dst (N := 3) rfl ?_); (try (refine gate_guard (by rfl) ?_; dsimp only)); refine box_event ?hg (N := 3) ?hd (cs := #[.slice A0_0 l0_0.length c0_0, .slice A0_1 l0_1.length c0_1, .slice A0_2 l0_2.length c0_2]) (t := 37) ?hr ?_; (case hd => rfl); (case hg => rfl); (case hr => first | (go_simp; done) | (go_simp; rfl)); intro gb249 hg w5 hbox hb; have n0_ := Aside0.mk (below_step (byB HB.out) hb); have n1_ := Aside0.mk (hbox); have n2_ := Aside0.mk ((by rw [hg]; exact (below_size (byB HB.out)) : w.heap.size ≤ gb249)); have n3_ := Aside0.mk ((by rw [hg]; exact (below_size (byB HB.out)) : w.heap.size ≤ gb249)); clear HB; have HB := n0_; have BK249 := n1_; have GW249 := n2_; have GE249 := n3_; clear n0_ n1_ n2_ n3_ hb hbox hg; have hcz6_0 : w5.cell? ⟨gb249, 0, none⟩ = some (.slice A0_0 l0_0.length c0_0) := (blk_cell BK249.out 0).trans rfl; have hcz6_1 : w5.cell? ⟨gb249, 1, none⟩ = some (.slice A0_1 l0_1.length c0_1) := (blk_cell BK249.out 1).trans rfl; have hcz6_2 : w5.cell? ⟨gb249, 2, none⟩ = some (.slice A0_2 l0_2.length c0_2) := (blk_cell BK249.out 2).trans rfl; have hfz6_0 := blk_frozen BK249.out 0; have hfz6_1 := blk_frozen BK249.out 1; have hfz6_2 := blk_frozen BK249.out 2) | (go_at_call 23; (with_reducible refine (turns_Expand.calls _ _ l0_0 _ _ l0_1 _ _ l0_2 _ _ l2 t250 t251 _ ?side1 ?side2 ?side3 ?side4 ?side5 ?side6 ?side7 ?side8 A4.out).mono ?_); (case side1 => exact byC (Kd.C_below HR0_0.out HB.out)); (case side2 => exact HC0_0.out); (case side3 => exact byC (Kd.C_below HR0_1.out HB.out)); (case side4 => exact HC0_1.out); (case side5 => exact byC (Kd.C_below HR0_2.out HB.out)); (case side6 => exact HC0_2.out); (case side7 => exact byC (Kd.C_below HR2.out HB.out)); (case side8 => exact HC2.out); rintro e w7 ⟨v252, rfl, ho0, hb⟩; have n0_ := Aside0.mk (Kd.R_lower ho0 (below_size (byB1 HB.out GE249.out))); have n1_ := Aside0.mk (blk_below (g := gb249) (o := .cells #[.slice A0_0 l0_0.length c0_0, .slice A0_1 l0_1.length c0_1, .slice A0_2 l0_2.length c0_2] 37 (0, 0)) (byK BK249.out) hb); have n2_ := Aside0.mk (below_step (byB1 HB.out GE249.out) hb); clear BK249 HB; have HO253 := n0_; have BK249 := n1_; have HB := n2_; clear n0_ n1_ n2_; (try clear hb); (try clear hb2); (try clear hk); (try clear hi); (try clear ho0)) | ((with_reducible refine gate_dst (N := 8) rfl ?_); (try (refine gate_guard (by rfl) ?_; dsimp only)); refine box_event ?hg (N := 8) ?hd (cs := #[.int .i64 0, .slice none 0 0]) (t := 51) ?hr ?_; (case hd => rfl); (case hg => rfl); (case hr => first | (go_simp; done) | (go_simp; rfl)); intro gb254 hg w8 hbox hb; have n0_ := Aside0.mk (Kd.R_below (byR HO253.out) hb); have n1_ := Aside0.mk (blk_below (g := gb249) (o := .cells #[.slice A0_0 l0_0.length c0_0, .slice A0_1 l0_1.length c0_1, .slice A0_2 l0_2.length c0_2] 37 (0, 0)) (byK BK249.out) hb); have n2_ := Aside0.mk (below_step (byB1 HB.out GE249.out) hb); have n3_ := Aside0.mk (hbox); have n4_ := Aside0.mk ((by rw [hg]; exact (below_size (byB1 HB.out GE249.out)) : w.heap.size ≤ gb254)); have n5_ := Aside0.mk ((by rw [hg]; exact (below_size (byB1 HB.out GE249.out)) : w.heap.size ≤ gb254)); have n6_ := Aside0.mk ((by rw [hg]; exact Nat.ne_of_lt (blk_lt (g := gb249) (o := .cells #[.slice A0_0 l0_0.length c0_0, .slice A0_1 l0_1.length c0_1, .slice A0_2 l0_2.length c0_2] 37 (0, 0)) (byK BK249.out)) : gb249 ≠ gb254)); have n7_ := Aside0.mk ((by rw [hg]; exact Nat.ne_of_gt (blk_lt (g := gb249) (o := .cells #[.slice A0_0 l0_0.length c0_0, .slice A0_1 l0_1.length c0_1, .slice A0_2 l0_2.length c0_2] 37 (0, 0)) (byK BK249.out)) : gb254 ≠ gb249)); clear HO253 BK249 HB; have HO253 := n0_; have BK249 := n1_; have HB := n2_; have BK254 := n3_; have GW254 := n4_; have GE254 := n5_; have NB249_254 := n6_; have NB254_249 := n7_; clear n0_ n1_ n2_ n3_ n4_ n5_ n6_ n7_ hb hbox hg; have hnb9 := NB254_249.out; have hnc9 := NB249_254.out; have hcz10_0 : w8.cell? ⟨gb254, 0, none⟩ = some (.int .i64 0) := (blk_cell BK254.out 0).trans rfl; have hcz10_1 : w8.cell? ⟨gb254, 1, none⟩ = some (.slice none 0 0) := (blk_cell BK254.out 1).trans rfl; have hfz10_0 := blk_frozen BK254.out 0; have hfz10_1 := blk_frozen BK254.out 1; obtain ⟨Ao11, co11, eo11⟩ := Kd.R_slice HO253.out; subst eo11; have hcz12_0 : w8.cell? ⟨gb249, 0, none⟩ = some (.slice A0_0 l0_0.length c0_0) := (blk_cell BK249.out 0).trans rfl; have hcz12_1 : w8.cell? ⟨gb249, 1, none⟩ = some (.slice A0_1 l0_1.length c0_1) := (blk_cell BK249.out 1).trans rfl; have hcz12_2 : w8.cell? ⟨gb249, 2, none⟩ = some (.slice A0_2 l0_2.length c0_2) := (blk_cell BK249.out 2).trans rfl; have hfz12_0 := blk_frozen BK249.out 0; have hfz12_1 := blk_frozen BK249.out 1; have hfz12_2 := blk_frozen BK249.out 2))
 repeat (go_quiet (first | ((with_reducible refine gate_dst (N := 3) rfl ?_); (try (refine gate_guard (by rfl) ?_; dsimp only)); refine box_event ?hg (N := 3) ?hd (cs := #[.slice A0_0 l0_0.length c0_0, .slice A0_1 l0_1.length c0_1, .slice A0_2 l0_2.length c0_2]) (t := 37) ?hr ?_; (case hd => rfl); (case hg => rfl); (case hr => first | (go_simp; done) | (go_simp; rfl)); intro gb249 hg w5 hbox hb; have n0_ := Aside0.mk (below_step (byB HB.out) hb); have n1_ := Aside0.mk (hbox); have n2_ := Aside0.mk ((by rw [hg]; exact (below_size (byB HB.out)) : w.heap.size ≤ gb249)); have n3_ := Aside0.mk ((by rw [hg]; exact (below_size (byB HB.out)) : w.heap.size ≤ gb249)); clear HB; have HB := n0_; have BK249 := n1_; have GW249 := n2_; have GE249 := n3_; clear n0_ n1_ n2_ n3_ hb hbox hg; have hcz6_0 : w5.cell? ⟨gb249, 0, none⟩ = some (.slice A0_0 l0_0.length c0_0) := (blk_cell BK249.out 0).trans rfl; have hcz6_1 : w5.cell? ⟨gb249, 1, none⟩ = some (.slice A0_1 l0_1.length c0_1) := (blk_cell BK249.out 1).trans rfl; have hcz6_2 : w5.cell? ⟨gb249, 2, none⟩ = some (.slice A0_2 l0_2.length c0_2) := (blk_cell BK249.out 2).trans rfl; have hfz6_0 := blk_frozen BK249.out 0; have hfz6_1 := blk_frozen BK249.out 1; have hfz6_2 := blk_frozen BK249.out 2) | (go_at_call 23; (with_reducible refine (turns_Expand.calls _ _ l0_0 _ _ l0_1 _ _ l0_2 _ _ l2 t250 t251 _ ?side1 ?side2 ?side3 ?side4 ?side5 ?side6 ?side7 ?side8 A4.out).mono ?_); (case side1 => exact byC (Kd.C_below HR0_0.out HB.out)); (case side2 => exact HC0_0.out); (case side3 => exact byC (Kd.C_below HR0_1.out HB.out)); (case side4 => exact HC0_1.out); (case side5 => exact byC (Kd.C_below HR0_2.out HB.out)); (case side6 => exact HC0_2.out); (case side7 => exact byC (Kd.C_below HR2.out HB.out)); (case side8 => exact HC2.out); rintro e w7 ⟨v252, rfl, ho0, hb⟩; have n0_ := Aside0.mk (Kd.R_lower ho0 (below_size (byB1 HB.out GE249.out))); have n1_ := Aside0.mk (blk_below (g := gb249) (o := .cells #[.slice A0_0 l0_0.length c0_0, .slice A0_1 l0_1.length c0_1, .slice A0_2 l0_2.length c0_2] 37 (0, 0)) (byK BK249.out) hb); have n2_ := Aside0.mk (below_step (byB1 HB.out GE249.out) hb); clear BK249 HB; have HO253 := n0_; have BK249 := n1_; have HB := n2_; clear n0_ n1_ n2_; (try clear hb); (try clear hb2); (try clear hk); (try clear hi); (try clear ho0)) | ((with_reducible refine gate_dst (N := 8) rfl ?_); (try (refine gate_guard (by rfl) ?_; dsimp only)); refine box_event ?hg (N := 8) ?hd (cs := #[.int .i64 0, .slice none 0 0]) (t := 51) ?hr ?_; (case hd => rfl); (case hg => rfl); (case hr => first | (go_simp; done) | (go_simp; rfl)); intro gb254 hg w8 hbox hb; have n0_ := Aside0.mk (Kd.R_below (byR HO253.out) hb); have n1_ := Aside0.mk (blk_below (g := gb249) (o := .cells #[.slice A0_0 l0_0.length c0_0, .slice A0_1 l0_1.length c0_1, .slice A0_2 l0_2.length c0_2] 37 (0, 0)) (byK BK249.out) hb); have n2_ := Aside0.mk (below_step (byB1 HB.out GE249.out) hb); have n3_ := Aside0.mk (hbox); have n4_ := Aside0.mk ((by rw [hg]; exact (below_size (byB1 HB.out GE249.out)) : w.heap.size ≤ gb254)); have n5_ := Aside0.mk ((by rw [hg]; exact (below_size (byB1 HB.out GE249.out)) : w.heap.size ≤ gb254)); have n6_ := Aside0.mk ((by rw [hg]; exact Nat.ne_of_lt (blk_lt (g := gb249) (o := .cells #[.slice A0_0 l0_0.length c0_0, .slice A0_1 l0_1.length c0_1, .slice A0_2 l0_2.length c0_2] 37 (0, 0)) (byK BK249.out)) : gb249 ≠ gb254)); have n7_ := Aside0.mk ((by rw [hg]; exact Nat.ne_of_gt (blk_lt (g := gb249) (o := .cells #[.slice A0_0 l0_0.length c0_0, .slice A0_1 l0_1.length c0_1, .slice A0_2 l0_2.length c0_2] 37 (0, 0)) (byK BK249.out)) : gb254 ≠ gb249)); clear HO253 BK249 HB; have HO253 := n0_; have BK249 := n1_; have HB := n2_; have BK254 := n3_; have GW254 := n4_; have GE254 := n5_; have NB249_254 := n6_; have NB254_249 := n7_; clear n0_ n1_ n2_ n3_ n4_ n5_ n6_ n7_ hb hbox hg; have hnb9 := NB254_249.out; have hnc9 := NB249_254.out; have hcz10_0 : w8.cell? ⟨gb254, 0, none⟩ = some (.int .i64 0) := (blk_cell BK254.out 0).trans rfl; have hcz10_1 : w8.cell? ⟨gb254, 1, none⟩ = some (.slice none 0 0) := (blk_cell BK254.out 1).trans rfl; have hfz10_0 := blk_frozen BK254.out 0; have hfz10_1 := blk_frozen BK254.out 1; obtain ⟨Ao11, co11, eo11⟩ := Kd.R_slice HO253.out; subst eo11; have hcz12_0 : w8.cell? ⟨gb249, 0, none⟩ = some (.slice A0_0 l0_0.length c0_0) := (blk_cell BK249.out 0).trans rfl; have hcz12_1 : w8.cell? ⟨gb249, 1, none⟩ = some (.slice A0_1 l0_1.length c0_1) := (blk_cell BK249.out 1).trans rfl; have hcz12_2 : w8.cell? ⟨gb249, 2, none⟩ = some (.slice A0_2 l0_2.length c0_2) := (blk_cell BK249.out 2).trans rfl; have hfz12_0 := blk_frozen BK249.out 0; have hfz12_1 := blk_frozen BK249.out 1; have hfz12_2 := blk_frozen BK249.out 2)); try go_wp2_with (first | ((with_reducible refine gate_dst (N := 3) rfl ?_); (try (refine gate_guard (by rfl) ?_; dsimp only)); refine box_event ?hg (N := 3) ?hd (cs := #[.slice A0_0 l0_0.length c0_0, .slice A0_1 l0_1.length c0_1, .slice A0_2 l0_2.length c0_2]) (t := 37) ?hr ?_; (case hd => rfl); (case hg => rfl); (case hr => first | (go_simp; done) | (go_simp; rfl)); intro gb249 hg w5 hbox hb; have n0_ := Aside0.mk (below_step (byB HB.out) hb); have n1_ := Aside0.mk (hbox); have n2_ := Aside0.mk ((by rw [hg]; exact (below_size (byB HB.out)) : w.heap.size ≤ gb249)); have n3_ := Aside0.mk ((by rw [hg]; exact (below_size (byB HB.out)) : w.heap.size ≤ gb249)); clear HB; have HB := n0_; have BK249 := n1_; have GW249 := n2_; have GE249 := n3_; clear n0_ n1_ n2_ n3_ hb hbox hg; have hcz6_0 : w5.cell? ⟨gb249, 0, none⟩ = some (.slice A0_0 l0_0.length c0_0) := (blk_cell BK249.out 0).trans rfl; have hcz6_1 : w5.cell? ⟨gb249, 1, none⟩ = some (.slice A0_1 l0_1.length c0_1) := (blk_cell BK249.out 1).trans rfl; have hcz6_2 : w5.cell? ⟨gb249, 2, none⟩ = some (.slice A0_2 l0_2.length c0_2) := (blk_cell BK249.out 2).trans rfl; have hfz6_0 := blk_frozen BK249.out 0; have hfz6_1 := blk_frozen BK249.out 1; have hfz6_2 := blk_frozen BK249.out 2) | (go_at_call 23; (with_reducible refine (turns_Expand.calls _ _ l0_0 _ _ l0_1 _ _ l0_2 _ _ l2 t250 t251 _ ?side1 ?side2 ?side3 ?side4 ?side5 ?side6 ?side7 ?side8 A4.out).mono ?_); (case side1 => exact byC (Kd.C_below HR0_0.out HB.out)); (case side2 => exact HC0_0.out); (case side3 => exact byC (Kd.C_below HR0_1.out HB.out)); (case side4 => exact HC0_1.out); (case side5 => exact byC (Kd.C_below HR0_2.out HB.out)); (case side6 => exact HC0_2.out); (case side7 => exact byC (Kd.C_below HR2.out HB.out)); (case side8 => exact HC2.out); rintro e w7 ⟨v252, rfl, ho0, hb⟩; have n0_ := Aside0.mk (Kd.R_lower ho0 (below_size (byB1 HB.out GE249.out))); have n1_ := Aside0.mk (blk_below (g := gb249) (o := .cells #[.slice A0_0 l0_0.length c0_0, .slice A0_1 l0_1.length c0_1, .slice A0_2 l0_2.length c0_2] 37 (0, 0)) (byK BK249.out) hb); have n2_ := Aside0.mk (below_step (byB1 HB.out GE249.out) hb); clear BK249 HB; have HO253 := n0_; have BK249 := n1_; have HB := n2_; clear n0_ n1_ n2_; (try clear hb); (try clear hb2); (try clear hk); (try clear hi); (try clear ho0)) | ((with_reducible refine gate_dst (N := 8) rfl ?_); (try (refine gate_guard (by rfl) ?_; dsimp only)); refine box_event ?hg (N := 8) ?hd (cs := #[.int .i64 0, .slice none 0 0]) (t := 51) ?hr ?_; (case hd => rfl); (case hg => rfl); (case hr => first | (go_simp; done) | (go_simp; rfl)); intro gb254 hg w8 hbox hb; have n0_ := Aside0.mk (Kd.R_below (byR HO253.out) hb); have n1_ := Aside0.mk (blk_below (g := gb249) (o := .cells #[.slice A0_0 l0_0.length c0_0, .slice A0_1 l0_1.length c0_1, .slice A0_2 l0_2.length c0_2] 37 (0, 0)) (byK BK249.out) hb); have n2_ := Aside0.mk (below_step (byB1 HB.out GE249.out) hb); have n3_ := Aside0.mk (hbox); have n4_ := Aside0.mk ((by rw [hg]; exact (below_size (byB1 HB.out GE249.out)) : w.heap.size ≤ gb254)); have n5_ := Aside0.mk ((by rw [hg]; exact (below_size (byB1 HB.out GE249.out)) : w.heap.size ≤ gb254)); have n6_ := Aside0.mk ((by rw [hg]; exact Nat.ne_of_lt (blk_lt (g := gb249) (o := .cells #[.slice A0_0 l0_0.length c0_0, .slice A0_1 l0_1.length c0_1, .slice A0_2 l0_2.length c0_2] 37 (0, 0)) (byK BK249.out)) : gb249 ≠ gb254)); have n7_ := Aside0.mk ((by rw [hg]; exact Nat.ne_of_gt (blk_lt (g := gb249) (o := .cells #[.slice A0_0 l0_0.length c0_0, .slice A0_1 l0_1.length c0_1, .slice A0_2 l0_2.length c0_2] 37 (0, 0)) (byK BK249.out)) : gb254 ≠ gb249)); clear HO253 BK249 HB; have HO253 := n0_; have BK249 := n1_; have HB := n2_; have BK254 := n3_; have GW254 := n4_; have GE254 := n5_; have NB249_254 := n6_; have NB254_249 := n7_; clear n0_ n1_ n2_ n3_ n4_ n5_ n6_ n7_ hb hbox hg; have hnb9 := NB254_249.out; have hnc9 := NB249_254.out; have hcz10_0 : w8.cell? ⟨gb254, 0, none⟩ = some (.int .i64 0) := (blk_cell BK254.out 0).trans rfl; have hcz10_1 : w8.cell? ⟨gb254, 1, none⟩ = some (.slice none 0 0) := (blk_cell BK254.out 1).trans rfl; have hfz10_0 := blk_frozen BK254.out 0; have hfz10_1 := blk_frozen BK254.out 1; obtain ⟨Ao11, co11, eo11⟩ := Kd.R_slice HO253.out; subst eo11; have hcz12_0 : w8.cell? ⟨gb249, 0, none⟩ = some (.slice A0_0 l0_0.length c0_0) := (blk_cell BK249.out 0).trans rfl; have hcz12_1 : w8.cell? ⟨gb249, 1, none⟩ = some (.slice A0_1 l0_1.length c0_1) := (blk_cell BK249.out 1).trans rfl; have hcz12_2 : w8.cell? ⟨gb249, 2, none⟩ = some (.slice A0_2 l0_2.length c0_2) := (blk_cell BK249.out 2).trans rfl; have hfz12_0 := blk_frozen BK249.out 0; have hfz12_1 := blk_frozen BK249.out 1; have hfz12_2 := blk_frozen BK249.out 2)))
 go_loopg [11, 12, 27] k (fun kq v11 v12 v27 w' => ∃ (x11_1 : List Int) (x12_1 : Int) (x27_1 : Int), v12 = .int .i64 x12_1 ∧ v27 = .int .i64 x27_1 ∧ Aside0 (turns_Pieces.l0 kq (l0_2.length : Int) (l0_0.length : Int) x11_1 x12_1 l1 (l1.length : Int) x27_1 t250 t251 = some (r1, r2)) ∧ Aside0 (kq ≤ k) ∧ Aside0 (Kd.R (Kd.int .i64) 3 w' w.heap.size (fun _ => True) v11 x11_1) ∧ Aside0 (Kd.R k92 92 w' w.heap.size (fun _ => True) (.slice Ao11 t251.length co11) t251) ∧ Aside0 (w'.heap[gb249]? = some (.cells #[(.slice A0_0 l0_0.length c0_0), (.slice A0_1 l0_1.length c0_1), (.slice A0_2 l0_2.length c0_2)] 37 (0, 0))) ∧ Aside0 (w'.heap[gb254]? = some (.cells #[.int .i64 t250, (.slice Ao11 t251.length co11)] 51 (0, 0))) ∧ Aside0 (Below w.heap.size w w'))
 case atStart => exact ⟨(([] : List Int)), ((-1)), (0), byF, byF, H', ⟨Nat.le_refl _⟩, ⟨by first | exact Kd.R_nil _ _ _ _ _ | exact Kd.N_nil _ _ _ _ _ | exact Kd.V_nil _ _ _ _ _ | exact Kd.Q_nil _ _ _ _ _ | exact Kd.S_nil _ _ _ _ _⟩, ⟨by (with_reducible repeat (first | apply Kd.R_alloc | apply Kd.R_drewN | apply Kd.R_drew)); exact Kd.R_mono (Kd.R_far (p := ⟨gb254, 1, none⟩) (Kd.R_far (p := ⟨gb254, 0, none⟩) (Kd.R_types HO253.out BK254.out (by decide)) (fun _ hk => hk.2) (.int .i64 t250)) (fun _ hk => hk.2) (.slice Ao11 t251.length co11)) (fun _ hk => trivial)⟩, ⟨by (with_reducible repeat (first | refine blk_drewN ?_ _ | refine blk_drew ?_ | refine blk_alloc ?_ _)); refine blk_far ?_ NB249_254.out _; (with_reducible repeat (first | refine blk_drewN ?_ _ | refine blk_drew ?_ | refine blk_alloc ?_ _)); refine blk_far ?_ NB249_254.out _; (with_reducible repeat (first | refine blk_drewN ?_ _ | refine blk_drew ?_ | refine blk_alloc ?_ _)); exact BK249.out⟩, ⟨by (with_reducible repeat (first | refine blk_drewN ?_ _ | refine blk_drew ?_ | refine blk_alloc ?_ _)); refine blk_put (cs := #[.int .i64 t250, .slice none 0 0]) ?_ 1 _ rfl; (with_reducible repeat (first | refine blk_drewN ?_ _ | refine blk_drew ?_ | refine blk_alloc ?_ _)); refine blk_put (cs := #[.int .i64 0, .slice none 0 0]) ?_ 0 _ rfl; (with_reducible repeat (first | refine blk_drewN ?_ _ | refine blk_drew ?_ | refine blk_alloc ?_ _)); exact BK254.out⟩, ⟨byB2 HB.out GE249.out GE254.out⟩⟩
 case round =>
  clear H'
  try clear c1
  try clear c2
  try clear p2
  try clear c9
  try clear hcz10_0
  try clear hcz10_1
  try clear hcz12_0
  try clear hcz12_1
  try clear hcz12_2
  try clear hcz6_0
  try clear hcz6_1
  try clear hcz6_2
  try clear hfz10_0
  try clear hfz10_1
  try clear hfz12_0
  try clear hfz12_1
  try clear hfz12_2
  try clear hfz6_0
  try clear hfz6_1
  try clear hfz6_2
  obtain ⟨x11_1, x12_1, x27_1, rfl, rfl, HA, HK1, HO_11, HO_255001, BK249, BK254, HB⟩ := hrel
  cases gk with
  | zero => exact absurd HA.out (by simp [turns_Pieces.l0])
  | succ k1 =>
   have H := HA.out; clear HA
   simp only [turns_Pieces.l0] at H
   by_cases c13 : x27_1 < (l1.length : Int)
   ·rw [if_pos c13] at H
    have c13b0 : decide (x27_1 < (l1.length : Int)) = true := decide_eq_true c13
    clear c13
    by_cases c14 : 0 ≤ x27_1
    ·rw [if_pos c14] at H
     have c14b0 : decide (0 ≤ x27_1) = true := decide_eq_true c14
     clear c14
     by_cases c15 : x27_1 < (l1.length : Int)
     ·rw [if_pos c15] at H
      have c15b0 : decide (x27_1 < (l1.length : Int)) = true := decide_eq_true c15
      clear c15; have HC16 := Aside0.mk H; clear H
      have p255 : 0 ≤ (x27_1 : Int) := odt
      have q255 : x27_1 < (l1.length : Int) := odt
      obtain ⟨ad255, e255, hx255_0⟩ := Kd.at_int HR1.out x27_1 p255 q255
      cases e255
      replace hx255_0 := (HB.out.cell (World.block_lt_of_cell? w _ hx255_0)).trans hx255_0
      replace p255 := eq_true p255; replace q255 := eq_true q255
      go_upto_region 8 with (fail)
      repeat (go_quiet (fail); go_upto_region 8 with (fail))
      go_cut [40] (fun v40 wc => ∃ (kq : Nat) (x40_15 : Bool), v40 = .bool x40_15 ∧ Aside0 (turns_Pieces.j1 kq (l0_2.length : Int) (l0_0.length : Int) x11_1 x12_1 x27_1 (rd l1 x27_1) l1 (l1.length : Int) x27_1 x40_15 t250 t251 = some (r1, r2)) ∧ Aside0 (kq ≤ k1) ∧ Aside0 (Kd.R (Kd.int .i64) 3 wc w.heap.size (fun _ => True) u11 x11_1) ∧ Aside0 (Kd.R k92 92 wc w.heap.size (fun _ => True) (.slice Ao11 t251.length co11) t251) ∧ Aside0 (wc.heap[gb249]? = some (.cells #[(.slice A0_0 l0_0.length c0_0), (.slice A0_1 l0_1.length c0_1), (.slice A0_2 l0_2.length c0_2)] 37 (0, 0))) ∧ Aside0 (wc.heap[gb254]? = some (.cells #[.int .i64 t250, (.slice Ao11 t251.length co11)] 51 (0, 0))) ∧ Aside0 (Below w.heap.size w wc))
      case first =>
       have H := HC16.out; clear HC16
       by_cases c17 : (rd l1 x27_1) < 0
       ·rw [if_pos c17] at H
        have c17b0 : decide ((rd l1 x27_1) < 0) = true := decide_eq_true c17
        clear c17
        (first | rw [c17b0] | (simp only [i64_w, i32_w]; rw [c17b0]) | skip)
        have H' := Aside0.mk H
        clear H
        go_wp2
        repeat (go_quiet (fail); try go_wp2)
        go_meet
        case rel => exact ⟨_, (true), byF, H', ⟨by have := HK1.out; first | omega | exact Nat.le_refl _⟩, ⟨by (with_reducible repeat (first | apply Kd.R_alloc | apply Kd.R_drewN | apply Kd.R_drew)); exact HO_11.out⟩, ⟨by (with_reducible repeat (first | apply Kd.R_alloc | apply Kd.R_drewN | apply Kd.R_drew)); exact HO_255001.out⟩, ⟨by (with_reducible repeat (first | refine blk_drewN ?_ _ | refine blk_drew ?_ | refine blk_alloc ?_ _)); exact BK249.out⟩, ⟨by (with_reducible repeat (first | refine blk_drewN ?_ _ | refine blk_drew ?_ | refine blk_alloc ?_ _)); exact BK254.out⟩, ⟨byB2 HB.out GE249.out GE254.out⟩⟩
       ·rw [if_neg c17] at H
        have c17b0 : decide ((rd l1 x27_1) < 0) = false := decide_eq_false c17
        clear c17
        (first | rw [c17b0] | (simp only [i64_w, i32_w]; rw [c17b0]) | skip)
        have H' := Aside0.mk H
        clear H; have hnb18 := NB254_249.out; have hnc18 := NB249_254.out
        have hcz19_0 : wr.cell? ⟨gb254, 0, none⟩ = some (.int .i64 t250) := (blk_cell BK254.out 0).trans rfl
        have hcz19_1 : wr.cell? ⟨gb254, 1, none⟩ = some (.slice Ao11 t251.length co11) := (blk_cell BK254.out 1).trans rfl
        have hfz19_0 := blk_frozen BK254.out 0; have hfz19_1 := blk_frozen BK254.out 1
        go_wp2
        repeat (go_quiet (fail); try go_wp2)
        go_meet
        case rel => exact ⟨_, (decide ((rd l1 x27_1) ≥ (t251.length : Int))), byF, H', ⟨by have := HK1.out; first | omega | exact Nat.le_refl _⟩, ⟨by (with_reducible repeat (first | apply Kd.R_alloc | apply Kd.R_drewN | apply Kd.R_drew)); exact HO_11.out⟩, ⟨by (with_reducible repeat (first | apply Kd.R_alloc | apply Kd.R_drewN | apply Kd.R_drew)); exact HO_255001.out⟩, ⟨by (with_reducible repeat (first | refine blk_drewN ?_ _ | refine blk_drew ?_ | refine blk_alloc ?_ _)); exact BK249.out⟩, ⟨by (with_reducible repeat (first | refine blk_drewN ?_ _ | refine blk_drew ?_ | refine blk_alloc ?_ _)); exact BK254.out⟩, ⟨byB2 HB.out GE249.out GE254.out⟩⟩
      case rest =>
       clear HC16
       try clear c1
       try clear c2
       try clear p2
       try clear q2
       try clear hx2
       try clear c9
       try clear c13
       try clear c13b0
       try clear c14
       try clear c14b0
       try clear c15
       try clear c15b0
       try clear c17
       try clear c17b0
       try clear c18
       try clear hcz10_0
       try clear hcz10_1
       try clear hcz12_0
       try clear hcz12_1
       try clear hcz12_2
       try clear hcz19_0
       try clear hcz19_1
       try clear hcz6_0
       try clear hcz6_1
       try clear hcz6_2
       try clear hfz10_0
       try clear hfz10_1
       try clear hfz12_0
       try clear hfz12_1
       try clear hfz12_2
       try clear hfz19_0
       try clear hfz19_1
       try clear hfz6_0
       try clear hfz6_1
       try clear hfz6_2
       try clear hx255_0
       try clear p2
       try clear p255
       try clear q255
       obtain ⟨kq, x40_15, rfl, HA, HJ15, HO_11, HO_255001, BK249, BK254, HB⟩ := hcut
       cases kq with
       | zero => exact absurd HA.out (by simp [turns_Pieces.j1])
       | succ kj15 =>
        have H := HA.out; clear HA
        simp only [turns_Pieces.j1] at H
        by_cases c20 : x40_15 = true
        ·subst c20
         have H1 : (some (([] : List Int), false)) = some (r1, r2) := by rw [if_pos rfl] at H; exact H
         clear H; have H := H1; clear H1
         simp only [Option.some.injEq, Prod.mk.injEq] at H
         obtain ⟨rfl, rfl⟩ := H
         go_wp2
         repeat (go_quiet (fail); try go_wp2)
         go_ret2
         exact ⟨_, byE, by first | exact Kd.R_nil _ _ _ _ _ | exact Kd.N_nil _ _ _ _ _ | exact Kd.V_nil _ _ _ _ _ | exact Kd.Q_nil _ _ _ _ _ | exact Kd.S_nil _ _ _ _ _, byB2 HB.out GE249.out GE254.out⟩
        ·replace c20 := Bool.eq_false_iff.mpr c20
         subst c20
         have H1 : (if 0 ≤ (rd l1 x27_1) then (if (rd l1 x27_1) < (t251.length : Int) then (if x27_1 = 0 then (if ((rd_T92 t251 (rd l1 x27_1)).f0) < (l0_2.length : Int) then (turns_Pieces.j2 kj15 (l0_2.length : Int) (l0_0.length : Int) x11_1 l1 (l1.length : Int) x27_1 true t250 t251 ((rd_T92 t251 (rd l1 x27_1)).f0) ((rd_T92 t251 (rd l1 x27_1)).f1)) else (if ((rd_T92 t251 (rd l1 x27_1)).f0) ≥ (wrap64 ((l0_2.length : Int) + (l0_0.length : Int))) then (turns_Pieces.j2 kj15 (l0_2.length : Int) (l0_0.length : Int) x11_1 l1 (l1.length : Int) x27_1 true t250 t251 ((rd_T92 t251 (rd l1 x27_1)).f0) ((rd_T92 t251 (rd l1 x27_1)).f1)) else (if x27_1 > 0 then (turns_Pieces.j2 kj15 (l0_2.length : Int) (l0_0.length : Int) x11_1 l1 (l1.length : Int) x27_1 (((rd_T92 t251 (rd l1 x27_1)).f0) != x12_1) t250 t251 ((rd_T92 t251 (rd l1 x27_1)).f0) ((rd_T92 t251 (rd l1 x27_1)).f1)) else (turns_Pieces.j2 kj15 (l0_2.length : Int) (l0_0.length : Int) x11_1 l1 (l1.length : Int) x27_1 false t250 t251 ((rd_T92 t251 (rd l1 x27_1)).f0) ((rd_T92 t251 (rd l1 x27_1)).f1))))) else (if x27_1 > 0 then (turns_Pieces.j2 kj15 (l0_2.length : Int) (l0_0.length : Int) x11_1 l1 (l1.length : Int) x27_1 (((rd_T92 t251 (rd l1 x27_1)).f0) != x12_1) t250 t251 ((rd_T92 t251 (rd l1 x27_1)).f0) ((rd_T92 t251 (rd l1 x27_1)).f1)) else (turns_Pieces.j2 kj15 (l0_2.length : Int) (l0_0.length : Int) x11_1 l1 (l1.length : Int) x27_1 false t250 t251 ((rd_T92 t251 (rd l1 x27_1)).f0) ((rd_T92 t251 (rd l1 x27_1)).f1)))) else (none)) else (none)) = some (r1, r2) := by rw [if_neg (show ¬ (false = true) by decide)] at H; exact H
         clear H; have H := H1; clear H1
         by_cases c21 : 0 ≤ (rd l1 x27_1)
         ·rw [if_pos c21] at H
          have c21b0 : decide (0 ≤ (rd l1 x27_1)) = true := decide_eq_true c21
          clear c21
          by_cases c22 : (rd l1 x27_1) < (t251.length : Int)
          ·rw [if_pos c22] at H
           have c22b0 : decide ((rd l1 x27_1) < (t251.length : Int)) = true := decide_eq_true c22
           clear c22; have HC23 := Aside0.mk H; clear H; have hnb24 := NB254_249.out; have hnc24 := NB249_254.out
           have hcz25_0 : wc.cell? ⟨gb254, 0, none⟩ = some (.int .i64 t250) := (blk_cell BK254.out 0).trans rfl
           have hcz25_1 : wc.cell? ⟨gb254, 1, none⟩ = some (.slice Ao11 t251.length co11) := (blk_cell BK254.out 1).trans rfl
           have hfz25_0 := blk_frozen BK254.out 0; have hfz25_1 := blk_frozen BK254.out 1
           have p256 : 0 ≤ ((rd l1 x27_1) : Int) := odt
           have q256 : (rd l1 x27_1) < (t251.length : Int) := odt
           obtain ⟨ad256, e256, hx256_0, hx256_1⟩ := at_T92 (Kd.R_reads' HO_255001.out).2.2 (rd l1 x27_1) p256 q256
           cases e256
           replace p256 := eq_true p256; replace q256 := eq_true q256
           go_upto_region 11 with (first | ((with_reducible refine gate_dst (N := 15) rfl ?_); (try (refine gate_guard (by rfl) ?_; dsimp only)); refine box_event ?hg (N := 15) ?hd (cs := #[.int .i64 0, .int .i64 0]) (t := 92) ?hr ?_; (case hd => rfl); (case hg => rfl); (case hr => first | (go_simp; done) | (go_simp; rfl)); intro gb257 hg w26 hbox hb; have n0_ := Aside0.mk (Kd.R_below (byR HO_11.out) hb); have n1_ := Aside0.mk (Kd.R_below (Kd.R_elderB (byR HO_255001.out) gb257 (Nat.le_of_eq hg.symm)) hb); have n2_ := Aside0.mk (blk_below (g := gb249) (o := .cells #[.slice A0_0 l0_0.length c0_0, .slice A0_1 l0_1.length c0_1, .slice A0_2 l0_2.length c0_2] 37 (0, 0)) (byK BK249.out) hb); have n3_ := Aside0.mk (blk_below (g := gb254) (o := .cells #[.int .i64 t250, .slice (some ad256) t251.length co11] 51 (0, 0)) (byK BK254.out) hb); have n4_ := Aside0.mk (below_step (byB2 HB.out GE249.out GE254.out) hb); have n5_ := Aside0.mk (hbox); have n6_ := Aside0.mk ((by rw [hg]; exact (below_size (byB2 HB.out GE249.out GE254.out)) : w.heap.size ≤ gb257)); have n7_ := Aside0.mk ((by rw [hg]; exact (below_size (byB2 HB.out GE249.out GE254.out)) : w.heap.size ≤ gb257)); have n8_ := Aside0.mk ((by rw [hg]; exact Nat.ne_of_lt (blk_lt (g := gb249) (o := .cells #[.slice A0_0 l0_0.length c0_0, .slice A0_1 l0_1.length c0_1, .slice A0_2 l0_2.length c0_2] 37 (0, 0)) (byK BK249.out)) : gb249 ≠ gb257)); have n9_ := Aside0.mk ((by rw [hg]; exact Nat.ne_of_gt (blk_lt (g := gb249) (o := .cells #[.slice A0_0 l0_0.length c0_0, .slice A0_1 l0_1.length c0_1, .slice A0_2 l0_2.length c0_2] 37 (0, 0)) (byK BK249.out)) : gb257 ≠ gb249)); have n10_ := Aside0.mk ((by rw [hg]; exact Nat.ne_of_lt (blk_lt (g := gb254) (o := .cells #[.int .i64 t250, .slice (some ad256) t251.length co11] 51 (0, 0)) (byK BK254.out)) : gb254 ≠ gb257)); have n11_ := Aside0.mk ((by rw [hg]; exact Nat.ne_of_gt (blk_lt (g := gb254) (o := .cells #[.int .i64 t250, .slice (some ad256) t251.length co11] 51 (0, 0)) (byK BK254.out)) : gb257 ≠ gb254)); clear HO_11 HO_255001 BK249 BK254 HB; have HO_11 := n0_; have HO_255001 := n1_; have BK249 := n2_; have BK254 := n3_; have HB := n4_; have BK257 := n5_; have GW257 := n6_; have GE257 := n7_; have NB249_257 := n8_; have NB257_249 := n9_; have NB254_257 := n10_; have NB257_254 := n11_; clear n0_ n1_ n2_ n3_ n4_ n5_ n6_ n7_ n8_ n9_ n10_ n11_ hb hbox hg; have hnb27 := NB257_249.out; have hnc27 := NB249_257.out; have hnb28 := NB257_254.out; have hnc28 := NB254_257.out; have hcz29_0 : w26.cell? ⟨gb257, 0, none⟩ = some (.int .i64 0) := (blk_cell BK257.out 0).trans rfl; have hcz29_1 : w26.cell? ⟨gb257, 1, none⟩ = some (.int .i64 0) := (blk_cell BK257.out 1).trans rfl; have hfz29_0 := blk_frozen BK257.out 0; have hfz29_1 := blk_frozen BK257.out 1))
           repeat (go_quiet (first | ((with_reducible refine gate_dst (N := 15) rfl ?_); (try (refine gate_guard (by rfl) ?_; dsimp only)); refine box_event ?hg (N := 15) ?hd (cs := #[.int .i64 0, .int .i64 0]) (t := 92) ?hr ?_; (case hd => rfl); (case hg => rfl); (case hr => first | (go_simp; done) | (go_simp; rfl)); intro gb257 hg w26 hbox hb; have n0_ := Aside0.mk (Kd.R_below (byR HO_11.out) hb); have n1_ := Aside0.mk (Kd.R_below (Kd.R_elderB (byR HO_255001.out) gb257 (Nat.le_of_eq hg.symm)) hb); have n2_ := Aside0.mk (blk_below (g := gb249) (o := .cells #[.slice A0_0 l0_0.length c0_0, .slice A0_1 l0_1.length c0_1, .slice A0_2 l0_2.length c0_2] 37 (0, 0)) (byK BK249.out) hb); have n3_ := Aside0.mk (blk_below (g := gb254) (o := .cells #[.int .i64 t250, .slice (some ad256) t251.length co11] 51 (0, 0)) (byK BK254.out) hb); have n4_ := Aside0.mk (below_step (byB2 HB.out GE249.out GE254.out) hb); have n5_ := Aside0.mk (hbox); have n6_ := Aside0.mk ((by rw [hg]; exact (below_size (byB2 HB.out GE249.out GE254.out)) : w.heap.size ≤ gb257)); have n7_ := Aside0.mk ((by rw [hg]; exact (below_size (byB2 HB.out GE249.out GE254.out)) : w.heap.size ≤ gb257)); have n8_ := Aside0.mk ((by rw [hg]; exact Nat.ne_of_lt (blk_lt (g := gb249) (o := .cells #[.slice A0_0 l0_0.length c0_0, .slice A0_1 l0_1.length c0_1, .slice A0_2 l0_2.length c0_2] 37 (0, 0)) (byK BK249.out)) : gb249 ≠ gb257)); have n9_ := Aside0.mk ((by rw [hg]; exact Nat.ne_of_gt (blk_lt (g := gb249) (o := .cells #[.slice A0_0 l0_0.length c0_0, .slice A0_1 l0_1.length c0_1, .slice A0_2 l0_2.length c0_2] 37 (0, 0)) (byK BK249.out)) : gb257 ≠ gb249)); have n10_ := Aside0.mk ((by rw [hg]; exact Nat.ne_of_lt (blk_lt (g := gb254) (o := .cells #[.int .i64 t250, .slice (some ad256) t251.length co11] 51 (0, 0)) (byK BK254.out)) : gb254 ≠ gb257)); have n11_ := Aside0.mk ((by rw [hg]; exact Nat.ne_of_gt (blk_lt (g := gb254) (o := .cells #[.int .i64 t250, .slice (some ad256) t251.length co11] 51 (0, 0)) (byK BK254.out)) : gb257 ≠ gb254)); clear HO_11 HO_255001 BK249 BK254 HB; have HO_11 := n0_; have HO_255001 := n1_; have BK249 := n2_; have BK254 := n3_; have HB := n4_; have BK257 := n5_; have GW257 := n6_; have GE257 := n7_; have NB249_257 := n8_; have NB257_249 := n9_; have NB254_257 := n10_; have NB257_254 := n11_; clear n0_ n1_ n2_ n3_ n4_ n5_ n6_ n7_ n8_ n9_ n10_ n11_ hb hbox hg; have hnb27 := NB257_249.out; have hnc27 := NB249_257.out; have hnb28 := NB257_254.out; have hnc28 := NB254_257.out; have hcz29_0 : w26.cell? ⟨gb257, 0, none⟩ = some (.int .i64 0) := (blk_cell BK257.out 0).trans rfl; have hcz29_1 : w26.cell? ⟨gb257, 1, none⟩ = some (.int .i64 0) := (blk_cell BK257.out 1).trans rfl; have hfz29_0 := blk_frozen BK257.out 0; have hfz29_1 := blk_frozen BK257.out 1)); go_upto_region 11 with (first | ((with_reducible refine gate_dst (N := 15) rfl ?_); (try (refine gate_guard (by rfl) ?_; dsimp only)); refine box_event ?hg (N := 15) ?hd (cs := #[.int .i64 0, .int .i64 0]) (t := 92) ?hr ?_; (case hd => rfl); (case hg => rfl); (case hr => first | (go_simp; done) | (go_simp; rfl)); intro gb257 hg w26 hbox hb; have n0_ := Aside0.mk (Kd.R_below (byR HO_11.out) hb); have n1_ := Aside0.mk (Kd.R_below (Kd.R_elderB (byR HO_255001.out) gb257 (Nat.le_of_eq hg.symm)) hb); have n2_ := Aside0.mk (blk_below (g := gb249) (o := .cells #[.slice A0_0 l0_0.length c0_0, .slice A0_1 l0_1.length c0_1, .slice A0_2 l0_2.length c0_2] 37 (0, 0)) (byK BK249.out) hb); have n3_ := Aside0.mk (blk_below (g := gb254) (o := .cells #[.int .i64 t250, .slice (some ad256) t251.length co11] 51 (0, 0)) (byK BK254.out) hb); have n4_ := Aside0.mk (below_step (byB2 HB.out GE249.out GE254.out) hb); have n5_ := Aside0.mk (hbox); have n6_ := Aside0.mk ((by rw [hg]; exact (below_size (byB2 HB.out GE249.out GE254.out)) : w.heap.size ≤ gb257)); have n7_ := Aside0.mk ((by rw [hg]; exact (below_size (byB2 HB.out GE249.out GE254.out)) : w.heap.size ≤ gb257)); have n8_ := Aside0.mk ((by rw [hg]; exact Nat.ne_of_lt (blk_lt (g := gb249) (o := .cells #[.slice A0_0 l0_0.length c0_0, .slice A0_1 l0_1.length c0_1, .slice A0_2 l0_2.length c0_2] 37 (0, 0)) (byK BK249.out)) : gb249 ≠ gb257)); have n9_ := Aside0.mk ((by rw [hg]; exact Nat.ne_of_gt (blk_lt (g := gb249) (o := .cells #[.slice A0_0 l0_0.length c0_0, .slice A0_1 l0_1.length c0_1, .slice A0_2 l0_2.length c0_2] 37 (0, 0)) (byK BK249.out)) : gb257 ≠ gb249)); have n10_ := Aside0.mk ((by rw [hg]; exact Nat.ne_of_lt (blk_lt (g := gb254) (o := .cells #[.int .i64 t250, .slice (some ad256) t251.length co11] 51 (0, 0)) (byK BK254.out)) : gb254 ≠ gb257)); have n11_ := Aside0.mk ((by rw [hg]; exact Nat.ne_of_gt (blk_lt (g := gb254) (o := .cells #[.int .i64 t250, .slice (some ad256) t251.length co11] 51 (0, 0)) (byK BK254.out)) : gb257 ≠ gb254)); clear HO_11 HO_255001 BK249 BK254 HB; have HO_11 := n0_; have HO_255001 := n1_; have BK249 := n2_; have BK254 := n3_; have HB := n4_; have BK257 := n5_; have GW257 := n6_; have GE257 := n7_; have NB249_257 := n8_; have NB257_249 := n9_; have NB254_257 := n10_; have NB257_254 := n11_; clear n0_ n1_ n2_ n3_ n4_ n5_ n6_ n7_ n8_ n9_ n10_ n11_ hb hbox hg; have hnb27 := NB257_249.out; have hnc27 := NB249_257.out; have hnb28 := NB257_254.out; have hnc28 := NB254_257.out; have hcz29_0 : w26.cell? ⟨gb257, 0, none⟩ = some (.int .i64 0) := (blk_cell BK257.out 0).trans rfl; have hcz29_1 : w26.cell? ⟨gb257, 1, none⟩ = some (.int .i64 0) := (blk_cell BK257.out 1).trans rfl; have hfz29_0 := blk_frozen BK257.out 0; have hfz29_1 := blk_frozen BK257.out 1)))
           (try simp only [Act.put, List.setIfInBounds_toArray, List.set_cons_zero, List.set_cons_succ])
           go_cut [71] (fun v71 wc => ∃ (kq : Nat) (x71_22 : Bool), v71 = .bool x71_22 ∧ Aside0 (turns_Pieces.j2 kq (l0_2.length : Int) (l0_0.length : Int) x11_1 l1 (l1.length : Int) x27_1 x71_22 t250 t251 ((rd_T92 t251 (rd l1 x27_1)).f0) ((rd_T92 t251 (rd l1 x27_1)).f1) = some (r1, r2)) ∧ Aside0 (kq ≤ kj15) ∧ Aside0 (Kd.R (Kd.int .i64) 3 wc w.heap.size (fun _ => True) u11 x11_1) ∧ Aside0 (Kd.R k92 92 wc w.heap.size (fun k_ => k_ ≠ gb257) (.slice (some ad256) t251.length co11) t251) ∧ Aside0 (wc.heap[gb249]? = some (.cells #[(.slice A0_0 l0_0.length c0_0), (.slice A0_1 l0_1.length c0_1), (.slice A0_2 l0_2.length c0_2)] 37 (0, 0))) ∧ Aside0 (wc.heap[gb254]? = some (.cells #[.int .i64 t250, (.slice (some ad256) t251.length co11)] 51 (0, 0))) ∧ Aside0 (wc.heap[gb257]? = some (.cells #[.int .i64 ((rd_T92 t251 (rd l1 x27_1)).f0), .int .i64 ((rd_T92 t251 (rd l1 x27_1)).f1)] 92 (0, 0))) ∧ Aside0 (Below w.heap.size w wc))
           case first =>
            have H := HC23.out; clear HC23
            by_cases c30 : x27_1 = 0
            ·rw [if_pos c30] at H
             have c30b0 : (x27_1 == 0) = true := beq_iff_eq.mpr c30
             have c30b1 : (x27_1 != 0) = false := bne_eq_false_iff_eq.mpr c30
             clear c30
             (first | rw [c30b0] | (simp only [i64_w, i32_w]; rw [c30b0]) | skip)
             by_cases c31 : ((rd_T92 t251 (rd l1 x27_1)).f0) < (l0_2.length : Int)
             ·rw [if_pos c31] at H
              have c31b0 : decide (((rd_T92 t251 (rd l1 x27_1)).f0) < (l0_2.length : Int)) = true := decide_eq_true c31
              clear c31
              have H' := Aside0.mk H
              clear H; have hnb32 := NB257_249.out; have hnc32 := NB249_257.out; have hnb33 := NB257_254.out; have hnc33 := NB254_257.out
              have hcz34_0 : w26.cell? ⟨gb257, 0, none⟩ = some (.int .i64 0) := (blk_cell BK257.out 0).trans rfl
              have hcz34_1 : w26.cell? ⟨gb257, 1, none⟩ = some (.int .i64 0) := (blk_cell BK257.out 1).trans rfl
              have hfz34_0 := blk_frozen BK257.out 0; have hfz34_1 := blk_frozen BK257.out 1
              go_wp2
              repeat (go_quiet (fail); try go_wp2)
              go_meet
              case rel => exact ⟨_, (true), byF, H', ⟨by have := HK1.out; have := HJ15.out; first | omega | exact Nat.le_refl _⟩, ⟨by (with_reducible repeat (first | apply Kd.R_alloc | apply Kd.R_drewN | apply Kd.R_drew)); exact Kd.R_mono (Kd.R_far (p := ⟨gb257, 1, none⟩) (Kd.R_far (p := ⟨gb257, 0, none⟩) (Kd.R_types HO_11.out BK257.out (by decide)) (fun _ hk => hk.2) (.int .i64 ((rd_T92 t251 (rd l1 x27_1)).f0))) (fun _ hk => hk.2) (.int .i64 ((rd_T92 t251 (rd l1 x27_1)).f1))) (fun _ hk => trivial)⟩, ⟨by (with_reducible repeat (first | apply Kd.R_alloc | apply Kd.R_drewN | apply Kd.R_drew)); exact Kd.R_mono (Kd.R_far (p := ⟨gb257, 1, none⟩) (Kd.R_far (p := ⟨gb257, 0, none⟩) (Kd.R_mono HO_255001.out (fun k_ hk => (⟨hk, hk.2⟩ : _ ∧ k_ ≠ gb257))) (fun _ hk => hk.2) (.int .i64 ((rd_T92 t251 (rd l1 x27_1)).f0))) (fun _ hk => hk.2) (.int .i64 ((rd_T92 t251 (rd l1 x27_1)).f1))) (fun _ hk => hk.1.2)⟩, ⟨by (with_reducible repeat (first | refine blk_drewN ?_ _ | refine blk_drew ?_ | refine blk_alloc ?_ _)); refine blk_far ?_ NB249_257.out _; (with_reducible repeat (first | refine blk_drewN ?_ _ | refine blk_drew ?_ | refine blk_alloc ?_ _)); refine blk_far ?_ NB249_257.out _; (with_reducible repeat (first | refine blk_drewN ?_ _ | refine blk_drew ?_ | refine blk_alloc ?_ _)); exact BK249.out⟩, ⟨by (with_reducible repeat (first | refine blk_drewN ?_ _ | refine blk_drew ?_ | refine blk_alloc ?_ _)); refine blk_far ?_ NB254_257.out _; (with_reducible repeat (first | refine blk_drewN ?_ _ | refine blk_drew ?_ | refine blk_alloc ?_ _)); refine blk_far ?_ NB254_257.out _; (with_reducible repeat (first | refine blk_drewN ?_ _ | refine blk_drew ?_ | refine blk_alloc ?_ _)); exact BK254.out⟩, ⟨by (with_reducible repeat (first | refine blk_drewN ?_ _ | refine blk_drew ?_ | refine blk_alloc ?_ _)); refine blk_put (cs := #[.int .i64 ((rd_T92 t251 (rd l1 x27_1)).f0), .int .i64 0]) ?_ 1 _ rfl; (with_reducible repeat (first | refine blk_drewN ?_ _ | refine blk_drew ?_ | refine blk_alloc ?_ _)); refine blk_put (cs := #[.int .i64 0, .int .i64 0]) ?_ 0 _ rfl; (with_reducible repeat (first | refine blk_drewN ?_ _ | refine blk_drew ?_ | refine blk_alloc ?_ _)); exact BK257.out⟩, ⟨byB3 HB.out GE249.out GE254.out GE257.out⟩⟩
             ·rw [if_neg c31] at H
              have c31b0 : decide (((rd_T92 t251 (rd l1 x27_1)).f0) < (l0_2.length : Int)) = false := decide_eq_false c31
              clear c31
              by_cases c35 : ((rd_T92 t251 (rd l1 x27_1)).f0) ≥ (wrap64 ((l0_2.length : Int) + (l0_0.length : Int)))
              ·rw [if_pos c35] at H
               have c35b0 : decide ((wrap64 ((l0_2.length : Int) + (l0_0.length : Int))) ≤ ((rd_T92 t251 (rd l1 x27_1)).f0)) = true := decide_eq_true c35
               clear c35
               have H' := Aside0.mk H
               clear H; have hnb36 := NB257_249.out; have hnc36 := NB249_257.out; have hnb37 := NB257_254.out; have hnc37 := NB254_257.out
               have hcz38_0 : w26.cell? ⟨gb257, 0, none⟩ = some (.int .i64 0) := (blk_cell BK257.out 0).trans rfl
               have hcz38_1 : w26.cell? ⟨gb257, 1, none⟩ = some (.int .i64 0) := (blk_cell BK257.out 1).trans rfl
               have hfz38_0 := blk_frozen BK257.out 0; have hfz38_1 := blk_frozen BK257.out 1
               go_wp2
               repeat (go_quiet (fail); try go_wp2)
               go_meet
               case rel => exact ⟨_, (true), byF, H', ⟨by have := HK1.out; have := HJ15.out; first | omega | exact Nat.le_refl _⟩, ⟨by (with_reducible repeat (first | apply Kd.R_alloc | apply Kd.R_drewN | apply Kd.R_drew)); exact Kd.R_mono (Kd.R_far (p := ⟨gb257, 1, none⟩) (Kd.R_far (p := ⟨gb257, 0, none⟩) (Kd.R_types HO_11.out BK257.out (by decide)) (fun _ hk => hk.2) (.int .i64 ((rd_T92 t251 (rd l1 x27_1)).f0))) (fun _ hk => hk.2) (.int .i64 ((rd_T92 t251 (rd l1 x27_1)).f1))) (fun _ hk => trivial)⟩, ⟨by (with_reducible repeat (first | apply Kd.R_alloc | apply Kd.R_drewN | apply Kd.R_drew)); exact Kd.R_mono (Kd.R_far (p := ⟨gb257, 1, none⟩) (Kd.R_far (p := ⟨gb257, 0, none⟩) (Kd.R_mono HO_255001.out (fun k_ hk => (⟨hk, hk.2⟩ : _ ∧ k_ ≠ gb257))) (fun _ hk => hk.2) (.int .i64 ((rd_T92 t251 (rd l1 x27_1)).f0))) (fun _ hk => hk.2) (.int .i64 ((rd_T92 t251 (rd l1 x27_1)).f1))) (fun _ hk => hk.1.2)⟩, ⟨by (with_reducible repeat (first | refine blk_drewN ?_ _ | refine blk_drew ?_ | refine blk_alloc ?_ _)); refine blk_far ?_ NB249_257.out _; (with_reducible repeat (first | refine blk_drewN ?_ _ | refine blk_drew ?_ | refine blk_alloc ?_ _)); refine blk_far ?_ NB249_257.out _; (with_reducible repeat (first | refine blk_drewN ?_ _ | refine blk_drew ?_ | refine blk_alloc ?_ _)); exact BK249.out⟩, ⟨by (with_reducible repeat (first | refine blk_drewN ?_ _ | refine blk_drew ?_ | refine blk_alloc ?_ _)); refine blk_far ?_ NB254_257.out _; (with_reducible repeat (first | refine blk_drewN ?_ _ | refine blk_drew ?_ | refine blk_alloc ?_ _)); refine blk_far ?_ NB254_257.out _; (with_reducible repeat (first | refine blk_drewN ?_ _ | refine blk_drew ?_ | refine blk_alloc ?_ _)); exact BK254.out⟩, ⟨by (with_reducible repeat (first | refine blk_drewN ?_ _ | refine blk_drew ?_ | refine blk_alloc ?_ _)); refine blk_put (cs := #[.int .i64 ((rd_T92 t251 (rd l1 x27_1)).f0), .int .i64 0]) ?_ 1 _ rfl; (with_reducible repeat (first | refine blk_drewN ?_ _ | refine blk_drew ?_ | refine blk_alloc ?_ _)); refine blk_put (cs := #[.int .i64 0, .int .i64 0]) ?_ 0 _ rfl; (with_reducible repeat (first | refine blk_drewN ?_ _ | refine blk_drew ?_ | refine blk_alloc ?_ _)); exact BK257.out⟩, ⟨byB3 HB.out GE249.out GE254.out GE257.out⟩⟩
              ·rw [if_neg c35] at H
               have c35b0 : decide ((wrap64 ((l0_2.length : Int) + (l0_0.length : Int))) ≤ ((rd_T92 t251 (rd l1 x27_1)).f0)) = false := decide_eq_false c35
               clear c35
               by_cases c39 : x27_1 > 0
               ·rw [if_pos c39] at H
                have c39b0 : decide (0 < x27_1) = true := decide_eq_true c39
                clear c39
                have H' := Aside0.mk H
                clear H; have hnb40 := NB257_249.out; have hnc40 := NB249_257.out; have hnb41 := NB257_254.out; have hnc41 := NB254_257.out
                have hcz42_0 : w26.cell? ⟨gb257, 0, none⟩ = some (.int .i64 0) := (blk_cell BK257.out 0).trans rfl
                have hcz42_1 : w26.cell? ⟨gb257, 1, none⟩ = some (.int .i64 0) := (blk_cell BK257.out 1).trans rfl
                have hfz42_0 := blk_frozen BK257.out 0; have hfz42_1 := blk_frozen BK257.out 1
                go_wp2
                repeat (go_quiet (fail); try go_wp2)
                go_meet
                case rel => exact ⟨_, ((((rd_T92 t251 (rd l1 x27_1)).f0) != x12_1)), byF, H', ⟨by have := HK1.out; have := HJ15.out; first | omega | exact Nat.le_refl _⟩, ⟨by (with_reducible repeat (first | apply Kd.R_alloc | apply Kd.R_drewN | apply Kd.R_drew)); exact Kd.R_mono (Kd.R_far (p := ⟨gb257, 1, none⟩) (Kd.R_far (p := ⟨gb257, 0, none⟩) (Kd.R_types HO_11.out BK257.out (by decide)) (fun _ hk => hk.2) (.int .i64 ((rd_T92 t251 (rd l1 x27_1)).f0))) (fun _ hk => hk.2) (.int .i64 ((rd_T92 t251 (rd l1 x27_1)).f1))) (fun _ hk => trivial)⟩, ⟨by (with_reducible repeat (first | apply Kd.R_alloc | apply Kd.R_drewN | apply Kd.R_drew)); exact Kd.R_mono (Kd.R_far (p := ⟨gb257, 1, none⟩) (Kd.R_far (p := ⟨gb257, 0, none⟩) (Kd.R_mono HO_255001.out (fun k_ hk => (⟨hk, hk.2⟩ : _ ∧ k_ ≠ gb257))) (fun _ hk => hk.2) (.int .i64 ((rd_T92 t251 (rd l1 x27_1)).f0))) (fun _ hk => hk.2) (.int .i64 ((rd_T92 t251 (rd l1 x27_1)).f1))) (fun _ hk => hk.1.2)⟩, ⟨by (with_reducible repeat (first | refine blk_drewN ?_ _ | refine blk_drew ?_ | refine blk_alloc ?_ _)); refine blk_far ?_ NB249_257.out _; (with_reducible repeat (first | refine blk_drewN ?_ _ | refine blk_drew ?_ | refine blk_alloc ?_ _)); refine blk_far ?_ NB249_257.out _; (with_reducible repeat (first | refine blk_drewN ?_ _ | refine blk_drew ?_ | refine blk_alloc ?_ _)); exact BK249.out⟩, ⟨by (with_reducible repeat (first | refine blk_drewN ?_ _ | refine blk_drew ?_ | refine blk_alloc ?_ _)); refine blk_far ?_ NB254_257.out _; (with_reducible repeat (first | refine blk_drewN ?_ _ | refine blk_drew ?_ | refine blk_alloc ?_ _)); refine blk_far ?_ NB254_257.out _; (with_reducible repeat (first | refine blk_drewN ?_ _ | refine blk_drew ?_ | refine blk_alloc ?_ _)); exact BK254.out⟩, ⟨by (with_reducible repeat (first | refine blk_drewN ?_ _ | refine blk_drew ?_ | refine blk_alloc ?_ _)); refine blk_put (cs := #[.int .i64 ((rd_T92 t251 (rd l1 x27_1)).f0), .int .i64 0]) ?_ 1 _ rfl; (with_reducible repeat (first | refine blk_drewN ?_ _ | refine blk_drew ?_ | refine blk_alloc ?_ _)); refine blk_put (cs := #[.int .i64 0, .int .i64 0]) ?_ 0 _ rfl; (with_reducible repeat (first | refine blk_drewN ?_ _ | refine blk_drew ?_ | refine blk_alloc ?_ _)); exact BK257.out⟩, ⟨byB3 HB.out GE249.out GE254.out GE257.out⟩⟩
               ·rw [if_neg c39] at H
                have c39b0 : decide (0 < x27_1) = false := decide_eq_false c39
                clear c39
                have H' := Aside0.mk H
                clear H; have hnb43 := NB257_249.out; have hnc43 := NB249_257.out; have hnb44 := NB257_254.out; have hnc44 := NB254_257.out
                have hcz45_0 : w26.cell? ⟨gb257, 0, none⟩ = some (.int .i64 0) := (blk_cell BK257.out 0).trans rfl
                have hcz45_1 : w26.cell? ⟨gb257, 1, none⟩ = some (.int .i64 0) := (blk_cell BK257.out 1).trans rfl
                have hfz45_0 := blk_frozen BK257.out 0; have hfz45_1 := blk_frozen BK257.out 1
                go_wp2
                repeat (go_quiet (fail); try go_wp2)
                go_meet
                case rel => exact ⟨_, (false), byF, H', ⟨by have := HK1.out; have := HJ15.out; first | omega | exact Nat.le_refl _⟩, ⟨by (with_reducible repeat (first | apply Kd.R_alloc | apply Kd.R_drewN | apply Kd.R_drew)); exact Kd.R_mono (Kd.R_far (p := ⟨gb257, 1, none⟩) (Kd.R_far (p := ⟨gb257, 0, none⟩) (Kd.R_types HO_11.out BK257.out (by decide)) (fun _ hk => hk.2) (.int .i64 ((rd_T92 t251 (rd l1 x27_1)).f0))) (fun _ hk => hk.2) (.int .i64 ((rd_T92 t251 (rd l1 x27_1)).f1))) (fun _ hk => trivial)⟩, ⟨by (with_reducible repeat (first | apply Kd.R_alloc | apply Kd.R_drewN | apply Kd.R_drew)); exact Kd.R_mono (Kd.R_far (p := ⟨gb257, 1, none⟩) (Kd.R_far (p := ⟨gb257, 0, none⟩) (Kd.R_mono HO_255001.out (fun k_ hk => (⟨hk, hk.2⟩ : _ ∧ k_ ≠ gb257))) (fun _ hk => hk.2) (.int .i64 ((rd_T92 t251 (rd l1 x27_1)).f0))) (fun _ hk => hk.2) (.int .i64 ((rd_T92 t251 (rd l1 x27_1)).f1))) (fun _ hk => hk.1.2)⟩, ⟨by (with_reducible repeat (first | refine blk_drewN ?_ _ | refine blk_drew ?_ | refine blk_alloc ?_ _)); refine blk_far ?_ NB249_257.out _; (with_reducible repeat (first | refine blk_drewN ?_ _ | refine blk_drew ?_ | refine blk_alloc ?_ _)); refine blk_far ?_ NB249_257.out _; (with_reducible repeat (first | refine blk_drewN ?_ _ | refine blk_drew ?_ | refine blk_alloc ?_ _)); exact BK249.out⟩, ⟨by (with_reducible repeat (first | refine blk_drewN ?_ _ | refine blk_drew ?_ | refine blk_alloc ?_ _)); refine blk_far ?_ NB254_257.out _; (with_reducible repeat (first | refine blk_drewN ?_ _ | refine blk_drew ?_ | refine blk_alloc ?_ _)); refine blk_far ?_ NB254_257.out _; (with_reducible repeat (first | refine blk_drewN ?_ _ | refine blk_drew ?_ | refine blk_alloc ?_ _)); exact BK254.out⟩, ⟨by (with_reducible repeat (first | refine blk_drewN ?_ _ | refine blk_drew ?_ | refine blk_alloc ?_ _)); refine blk_put (cs := #[.int .i64 ((rd_T92 t251 (rd l1 x27_1)).f0), .int .i64 0]) ?_ 1 _ rfl; (with_reducible repeat (first | refine blk_drewN ?_ _ | refine blk_drew ?_ | refine blk_alloc ?_ _)); refine blk_put (cs := #[.int .i64 0, .int .i64 0]) ?_ 0 _ rfl; (with_reducible repeat (first | refine blk_drewN ?_ _ | refine blk_drew ?_ | refine blk_alloc ?_ _)); exact BK257.out⟩, ⟨byB3 HB.out GE249.out GE254.out GE257.out⟩⟩
            ·rw [if_neg c30] at H
             have c30b0 : (x27_1 == 0) = false := beq_eq_false_iff_ne.mpr c30
             have c30b1 : (x27_1 != 0) = true := bne_iff_ne.mpr c30
             (first | rw [c30b0] | (simp only [i64_w, i32_w]; rw [c30b0]) | skip)
             by_cases c46 : x27_1 > 0
             ·rw [if_pos c46] at H
              have c46b0 : decide (0 < x27_1) = true := decide_eq_true c46
              clear c46
              have H' := Aside0.mk H
              clear H; have hnb47 := NB257_249.out; have hnc47 := NB249_257.out; have hnb48 := NB257_254.out; have hnc48 := NB254_257.out
              have hcz49_0 : w26.cell? ⟨gb257, 0, none⟩ = some (.int .i64 0) := (blk_cell BK257.out 0).trans rfl
              have hcz49_1 : w26.cell? ⟨gb257, 1, none⟩ = some (.int .i64 0) := (blk_cell BK257.out 1).trans rfl
              have hfz49_0 := blk_frozen BK257.out 0; have hfz49_1 := blk_frozen BK257.out 1
              go_wp2
              repeat (go_quiet (fail); try go_wp2)
              go_meet
              case rel => exact ⟨_, ((((rd_T92 t251 (rd l1 x27_1)).f0) != x12_1)), byF, H', ⟨by have := HK1.out; have := HJ15.out; first | omega | exact Nat.le_refl _⟩, ⟨by (with_reducible repeat (first | apply Kd.R_alloc | apply Kd.R_drewN | apply Kd.R_drew)); exact Kd.R_mono (Kd.R_far (p := ⟨gb257, 1, none⟩) (Kd.R_far (p := ⟨gb257, 0, none⟩) (Kd.R_types HO_11.out BK257.out (by decide)) (fun _ hk => hk.2) (.int .i64 ((rd_T92 t251 (rd l1 x27_1)).f0))) (fun _ hk => hk.2) (.int .i64 ((rd_T92 t251 (rd l1 x27_1)).f1))) (fun _ hk => trivial)⟩, ⟨by (with_reducible repeat (first | apply Kd.R_alloc | apply Kd.R_drewN | apply Kd.R_drew)); exact Kd.R_mono (Kd.R_far (p := ⟨gb257, 1, none⟩) (Kd.R_far (p := ⟨gb257, 0, none⟩) (Kd.R_mono HO_255001.out (fun k_ hk => (⟨hk, hk.2⟩ : _ ∧ k_ ≠ gb257))) (fun _ hk => hk.2) (.int .i64 ((rd_T92 t251 (rd l1 x27_1)).f0))) (fun _ hk => hk.2) (.int .i64 ((rd_T92 t251 (rd l1 x27_1)).f1))) (fun _ hk => hk.1.2)⟩, ⟨by (with_reducible repeat (first | refine blk_drewN ?_ _ | refine blk_drew ?_ | refine blk_alloc ?_ _)); refine blk_far ?_ NB249_257.out _; (with_reducible repeat (first | refine blk_drewN ?_ _ | refine blk_drew ?_ | refine blk_alloc ?_ _)); refine blk_far ?_ NB249_257.out _; (with_reducible repeat (first | refine blk_drewN ?_ _ | refine blk_drew ?_ | refine blk_alloc ?_ _)); exact BK249.out⟩, ⟨by (with_reducible repeat (first | refine blk_drewN ?_ _ | refine blk_drew ?_ | refine blk_alloc ?_ _)); refine blk_far ?_ NB254_257.out _; (with_reducible repeat (first | refine blk_drewN ?_ _ | refine blk_drew ?_ | refine blk_alloc ?_ _)); refine blk_far ?_ NB254_257.out _; (with_reducible repeat (first | refine blk_drewN ?_ _ | refine blk_drew ?_ | refine blk_alloc ?_ _)); exact BK254.out⟩, ⟨by (with_reducible repeat (first | refine blk_drewN ?_ _ | refine blk_drew ?_ | refine blk_alloc ?_ _)); refine blk_put (cs := #[.int .i64 ((rd_T92 t251 (rd l1 x27_1)).f0), .int .i64 0]) ?_ 1 _ rfl; (with_reducible repeat (first | refine blk_drewN ?_ _ | refine blk_drew ?_ | refine blk_alloc ?_ _)); refine blk_put (cs := #[.int .i64 0, .int .i64 0]) ?_ 0 _ rfl; (with_reducible repeat (first | refine blk_drewN ?_ _ | refine blk_drew ?_ | refine blk_alloc ?_ _)); exact BK257.out⟩, ⟨byB3 HB.out GE249.out GE254.out GE257.out⟩⟩
             ·rw [if_neg c46] at H
              have c46b0 : decide (0 < x27_1) = false := decide_eq_false c46
              clear c46
              have H' := Aside0.mk H
              clear H
              go_wp2
              repeat (go_quiet (fail); try go_wp2)
              go_meet
              case rel => exact ⟨_, (false), byF, H', ⟨by have := HK1.out; have := HJ15.out; first | omega | exact Nat.le_refl _⟩, ⟨by (with_reducible repeat (first | apply Kd.R_alloc | apply Kd.R_drewN | apply Kd.R_drew)); exact Kd.R_mono (Kd.R_far (p := ⟨gb257, 1, none⟩) (Kd.R_far (p := ⟨gb257, 0, none⟩) (Kd.R_types HO_11.out BK257.out (by decide)) (fun _ hk => hk.2) (.int .i64 ((rd_T92 t251 (rd l1 x27_1)).f0))) (fun _ hk => hk.2) (.int .i64 ((rd_T92 t251 (rd l1 x27_1)).f1))) (fun _ hk => trivial)⟩, ⟨by (with_reducible repeat (first | apply Kd.R_alloc | apply Kd.R_drewN | apply Kd.R_drew)); exact Kd.R_mono (Kd.R_far (p := ⟨gb257, 1, none⟩) (Kd.R_far (p := ⟨gb257, 0, none⟩) (Kd.R_mono HO_255001.out (fun k_ hk => (⟨hk, hk.2⟩ : _ ∧ k_ ≠ gb257))) (fun _ hk => hk.2) (.int .i64 ((rd_T92 t251 (rd l1 x27_1)).f0))) (fun _ hk => hk.2) (.int .i64 ((rd_T92 t251 (rd l1 x27_1)).f1))) (fun _ hk => hk.1.2)⟩, ⟨by (with_reducible repeat (first | refine blk_drewN ?_ _ | refine blk_drew ?_ | refine blk_alloc ?_ _)); refine blk_far ?_ NB249_257.out _; (with_reducible repeat (first | refine blk_drewN ?_ _ | refine blk_drew ?_ | refine blk_alloc ?_ _)); refine blk_far ?_ NB249_257.out _; (with_reducible repeat (first | refine blk_drewN ?_ _ | refine blk_drew ?_ | refine blk_alloc ?_ _)); exact BK249.out⟩, ⟨by (with_reducible repeat (first | refine blk_drewN ?_ _ | refine blk_drew ?_ | refine blk_alloc ?_ _)); refine blk_far ?_ NB254_257.out _; (with_reducible repeat (first | refine blk_drewN ?_ _ | refine blk_drew ?_ | refine blk_alloc ?_ _)); refine blk_far ?_ NB254_257.out _; (with_reducible repeat (first | refine blk_drewN ?_ _ | refine blk_drew ?_ | refine blk_alloc ?_ _)); exact BK254.out⟩, ⟨by (with_reducible repeat (first | refine blk_drewN ?_ _ | refine blk_drew ?_ | refine blk_alloc ?_ _)); refine blk_put (cs := #[.int .i64 ((rd_T92 t251 (rd l1 x27_1)).f0), .int .i64 0]) ?_ 1 _ rfl; (with_reducible repeat (first | refine blk_drewN ?_ _ | refine blk_drew ?_ | refine blk_alloc ?_ _)); refine blk_put (cs := #[.int .i64 0, .int .i64 0]) ?_ 0 _ rfl; (with_reducible repeat (first | refine blk_drewN ?_ _ | refine blk_drew ?_ | refine blk_alloc ?_ _)); exact BK257.out⟩, ⟨byB3 HB.out GE249.out GE254.out GE257.out⟩⟩
           case rest =>
            clear HC23
            try clear c1
            try clear c2
            try clear p2
            try clear q2
            try clear hx2
            try clear c3
            try clear c4
            try clear p6
            try clear c9
            try clear c13
            try clear c13b0
            try clear c14
            try clear c14b0
            try clear c15
            try clear c15b0
            try clear c17
            try clear c17b0
            try clear c18
            try clear c20
            try clear c21
            try clear c21b0
            try clear c22
            try clear c22b0
            try clear c24
            try clear c25
            try clear p25
            try clear q25
            try clear hx25
            try clear c27
            try clear c28
            try clear c30
            try clear c30b0
            try clear c30b1
            try clear c31
            try clear c31b0
            try clear c32
            try clear c33
            try clear c35
            try clear c35b0
            try clear c36
            try clear c37
            try clear c39
            try clear c39b0
            try clear c40
            try clear c41
            try clear c43
            try clear c44
            try clear c46
            try clear c46b0
            try clear c47
            try clear c48
            try clear hcz10_0
            try clear hcz10_1
            try clear hcz12_0
            try clear hcz12_1
            try clear hcz12_2
            try clear hcz19_0
            try clear hcz19_1
            try clear hcz25_0
            try clear hcz25_1
            try clear hcz29_0
            try clear hcz29_1
            try clear hcz34_0
            try clear hcz34_1
            try clear hcz38_0
            try clear hcz38_1
            try clear hcz42_0
            try clear hcz42_1
            try clear hcz45_0
            try clear hcz45_1
            try clear hcz49_0
            try clear hcz49_1
            try clear hcz6_0
            try clear hcz6_1
            try clear hcz6_2
            try clear hfz10_0
            try clear hfz10_1
            try clear hfz12_0
            try clear hfz12_1
            try clear hfz12_2
            try clear hfz19_0
            try clear hfz19_1
            try clear hfz25_0
            try clear hfz25_1
            try clear hfz29_0
            try clear hfz29_1
            try clear hfz34_0
            try clear hfz34_1
            try clear hfz38_0
            try clear hfz38_1
            try clear hfz42_0
            try clear hfz42_1
            try clear hfz45_0
            try clear hfz45_1
            try clear hfz49_0
            try clear hfz49_1
            try clear hfz6_0
            try clear hfz6_1
            try clear hfz6_2
            try clear hx255_0
            try clear hx256_0
            try clear hx256_1
            try clear p2
            try clear p255
            try clear p256
            try clear q2
            try clear q255
            try clear q256
            obtain ⟨kq, x71_22, rfl, HA, HJ22, HO_11, HO_255001, BK249, BK254, BK257, HB⟩ := hcut
            cases kq with
            | zero => exact absurd HA.out (by simp [turns_Pieces.j2])
            | succ kj22 =>
             have H := HA.out; clear HA
             simp only [turns_Pieces.j2] at H
             by_cases c50 : x71_22 = true
             ·subst c50
              have H1 : (some (([] : List Int), false)) = some (r1, r2) := by rw [if_pos rfl] at H; exact H
              clear H; have H := H1; clear H1
              simp only [Option.some.injEq, Prod.mk.injEq] at H
              obtain ⟨rfl, rfl⟩ := H
              go_wp2
              repeat (go_quiet (fail); try go_wp2)
              go_ret2
              exact ⟨_, byE, by first | exact Kd.R_nil _ _ _ _ _ | exact Kd.N_nil _ _ _ _ _ | exact Kd.V_nil _ _ _ _ _ | exact Kd.Q_nil _ _ _ _ _ | exact Kd.S_nil _ _ _ _ _, byB3 HB.out GE249.out GE254.out GE257.out⟩
             ·replace c50 := Bool.eq_false_iff.mpr c50
              subst c50
              have H1 : (if ((rd_T92 t251 (rd l1 x27_1)).f1) < (l0_2.length : Int) then (if x11_1.length < 17592186044416 then (turns_Pieces.l0 kj22 (l0_2.length : Int) (l0_0.length : Int) (x11_1 ++ [((rd_T92 t251 (rd l1 x27_1)).f1)]) ((rd_T92 t251 (rd l1 x27_1)).f1) l1 (l1.length : Int) (wrap64 (x27_1 + 1)) t250 t251) else (none)) else (turns_Pieces.l0 kj22 (l0_2.length : Int) (l0_0.length : Int) x11_1 ((rd_T92 t251 (rd l1 x27_1)).f1) l1 (l1.length : Int) (wrap64 (x27_1 + 1)) t250 t251)) = some (r1, r2) := by rw [if_neg (show ¬ (false = true) by decide)] at H; exact H
              clear H; have H := H1; clear H1
              by_cases c51 : ((rd_T92 t251 (rd l1 x27_1)).f1) < (l0_2.length : Int)
              ·rw [if_pos c51] at H
               have c51b0 : decide (((rd_T92 t251 (rd l1 x27_1)).f1) < (l0_2.length : Int)) = true := decide_eq_true c51
               clear c51
               by_cases c52 : x11_1.length < 17592186044416
               ·rw [if_pos c52] at H
                have LMc52 := Aside0.mk c52; clear c52
                obtain ⟨y258, hy258⟩ : ∃ y_ : List Int, y_ = (x11_1 ++ [((rd_T92 t251 (rd l1 x27_1)).f1)]) := ⟨_, rfl⟩
                replace H : (turns_Pieces.l0 kj22 (l0_2.length : Int) (l0_0.length : Int) y258 ((rd_T92 t251 (rd l1 x27_1)).f1) l1 (l1.length : Int) (wrap64 (x27_1 + 1)) t250 t251) = some (r1, r2) := by first | (rw [hy258]; with_reducible exact H) | (have H2_ := (Option.bind_some _ _).symm.trans H; rw [hy258]; with_reducible exact H2_) | (have H2_ := (Option.bind_some _ _).symm.trans H; with_reducible exact H2_) | with_reducible exact H | (rw [hy258]; exact H) | exact H
                have Ny258 := Aside0.mk hy258; clear hy258
                have H' := Aside0.mk H
                clear H; have hnb53 := NB257_249.out; have hnc53 := NB249_257.out; have hnb54 := NB257_254.out; have hnc54 := NB254_257.out
                have hcz55_0 : wc.cell? ⟨gb257, 0, none⟩ = some (.int .i64 ((rd_T92 t251 (rd l1 x27_1)).f0)) := (blk_cell BK257.out 0).trans rfl
                have hcz55_1 : wc.cell? ⟨gb257, 1, none⟩ = some (.int .i64 ((rd_T92 t251 (rd l1 x27_1)).f1)) := (blk_cell BK257.out 1).trans rfl
                have hfz55_0 := blk_frozen BK257.out 0; have hfz55_1 := blk_frozen BK257.out 1
                go_wp2_with (first | ((with_reducible refine gate_builtin (b := .append) (xs := #[.tmp 77, .tmp 79]) rfl ?_); (try (refine gate_guard (by rfl) ?_; dsimp only)); at_builtin; refine Kd.R_append (Kd.int .i64) (w0 := w) w.heap.size rfl (.tmp 77) (.tmp 79) 33 3 (.int .i64 0) 8 rfl Try.underlying33 info3 rfl (by decide) (by omega) u11 x11_1 ((rd_T92 t251 (rd l1 x27_1)).f1) [.int .i64 ((rd_T92 t251 (rd l1 x27_1)).f1)] (fun _ => True) (fun _ => False) rfl rfl ?aP (fun _ hk => hk.elim) ?aF ?aO ?aB ?aS ?aL ?_; (case aP => exact rfl); (case aB => exact (byB3 HB.out GE249.out GE254.out GE257.out)); (case aF => exact (fun _ _ => trivial)); (case aO => exact (byR HO_11.out)); (case aS => exact (below_size (byB3 HB.out GE249.out GE254.out GE257.out))); (case aL => have := LMc52.out; omega); intro v259 w56 ho hb hg hat; rw [← Ny258.out] at ho; have n0_ := Aside0.mk (Kd.R_over' (byR HO_255001.out) (Kd.R_typed (byR HO_11.out)) (by decide) hg); have n1_ := Aside0.mk (blk_grown (g := gb249) (o := .cells #[.slice A0_0 l0_0.length c0_0, .slice A0_1 l0_1.length c0_1, .slice A0_2 l0_2.length c0_2] 37 (0, 0)) (byK BK249.out) hg (Kd.R_ne HO_11.out BK249.out (by decide))); have n2_ := Aside0.mk (blk_grown (g := gb254) (o := .cells #[.int .i64 t250, .slice (some ad256) t251.length co11] 51 (0, 0)) (byK BK254.out) hg (Kd.R_ne HO_11.out BK254.out (by decide))); have n3_ := Aside0.mk (blk_grown (g := gb257) (o := .cells #[.int .i64 ((rd_T92 t251 (rd l1 x27_1)).f0), .int .i64 ((rd_T92 t251 (rd l1 x27_1)).f1)] 92 (0, 0)) (byK BK257.out) hg (Kd.R_ne HO_11.out BK257.out (by decide))); have n4_ := Aside0.mk (hb); have n5_ := Aside0.mk (ho); clear HO_255001 BK249 BK254 BK257 HB HO_11; have HO_255001 := n0_; have BK249 := n1_; have BK254 := n2_; have BK257 := n3_; have HB := n4_; have HO260 := n5_; clear n0_ n1_ n2_ n3_ n4_ n5_ ho hb hg hat))
                repeat (go_quiet (first | ((with_reducible refine gate_builtin (b := .append) (xs := #[.tmp 77, .tmp 79]) rfl ?_); (try (refine gate_guard (by rfl) ?_; dsimp only)); at_builtin; refine Kd.R_append (Kd.int .i64) (w0 := w) w.heap.size rfl (.tmp 77) (.tmp 79) 33 3 (.int .i64 0) 8 rfl Try.underlying33 info3 rfl (by decide) (by omega) u11 x11_1 ((rd_T92 t251 (rd l1 x27_1)).f1) [.int .i64 ((rd_T92 t251 (rd l1 x27_1)).f1)] (fun _ => True) (fun _ => False) rfl rfl ?aP (fun _ hk => hk.elim) ?aF ?aO ?aB ?aS ?aL ?_; (case aP => exact rfl); (case aB => exact (byB3 HB.out GE249.out GE254.out GE257.out)); (case aF => exact (fun _ _ => trivial)); (case aO => exact (byR HO_11.out)); (case aS => exact (below_size (byB3 HB.out GE249.out GE254.out GE257.out))); (case aL => have := LMc52.out; omega); intro v259 w56 ho hb hg hat; rw [← Ny258.out] at ho; have n0_ := Aside0.mk (Kd.R_over' (byR HO_255001.out) (Kd.R_typed (byR HO_11.out)) (by decide) hg); have n1_ := Aside0.mk (blk_grown (g := gb249) (o := .cells #[.slice A0_0 l0_0.length c0_0, .slice A0_1 l0_1.length c0_1, .slice A0_2 l0_2.length c0_2] 37 (0, 0)) (byK BK249.out) hg (Kd.R_ne HO_11.out BK249.out (by decide))); have n2_ := Aside0.mk (blk_grown (g := gb254) (o := .cells #[.int .i64 t250, .slice (some ad256) t251.length co11] 51 (0, 0)) (byK BK254.out) hg (Kd.R_ne HO_11.out BK254.out (by decide))); have n3_ := Aside0.mk (blk_grown (g := gb257) (o := .cells #[.int .i64 ((rd_T92 t251 (rd l1 x27_1)).f0), .int .i64 ((rd_T92 t251 (rd l1 x27_1)).f1)] 92 (0, 0)) (byK BK257.out) hg (Kd.R_ne HO_11.out BK257.out (by decide))); have n4_ := Aside0.mk (hb); have n5_ := Aside0.mk (ho); clear HO_255001 BK249 BK254 BK257 HB HO_11; have HO_255001 := n0_; have BK249 := n1_; have BK254 := n2_; have BK257 := n3_; have HB := n4_; have HO260 := n5_; clear n0_ n1_ n2_ n3_ n4_ n5_ ho hb hg hat)); try go_wp2_with (first | ((with_reducible refine gate_builtin (b := .append) (xs := #[.tmp 77, .tmp 79]) rfl ?_); (try (refine gate_guard (by rfl) ?_; dsimp only)); at_builtin; refine Kd.R_append (Kd.int .i64) (w0 := w) w.heap.size rfl (.tmp 77) (.tmp 79) 33 3 (.int .i64 0) 8 rfl Try.underlying33 info3 rfl (by decide) (by omega) u11 x11_1 ((rd_T92 t251 (rd l1 x27_1)).f1) [.int .i64 ((rd_T92 t251 (rd l1 x27_1)).f1)] (fun _ => True) (fun _ => False) rfl rfl ?aP (fun _ hk => hk.elim) ?aF ?aO ?aB ?aS ?aL ?_; (case aP => exact rfl); (case aB => exact (byB3 HB.out GE249.out GE254.out GE257.out)); (case aF => exact (fun _ _ => trivial)); (case aO => exact (byR HO_11.out)); (case aS => exact (below_size (byB3 HB.out GE249.out GE254.out GE257.out))); (case aL => have := LMc52.out; omega); intro v259 w56 ho hb hg hat; rw [← Ny258.out] at ho; have n0_ := Aside0.mk (Kd.R_over' (byR HO_255001.out) (Kd.R_typed (byR HO_11.out)) (by decide) hg); have n1_ := Aside0.mk (blk_grown (g := gb249) (o := .cells #[.slice A0_0 l0_0.length c0_0, .slice A0_1 l0_1.length c0_1, .slice A0_2 l0_2.length c0_2] 37 (0, 0)) (byK BK249.out) hg (Kd.R_ne HO_11.out BK249.out (by decide))); have n2_ := Aside0.mk (blk_grown (g := gb254) (o := .cells #[.int .i64 t250, .slice (some ad256) t251.length co11] 51 (0, 0)) (byK BK254.out) hg (Kd.R_ne HO_11.out BK254.out (by decide))); have n3_ := Aside0.mk (blk_grown (g := gb257) (o := .cells #[.int .i64 ((rd_T92 t251 (rd l1 x27_1)).f0), .int .i64 ((rd_T92 t251 (rd l1 x27_1)).f1)] 92 (0, 0)) (byK BK257.out) hg (Kd.R_ne HO_11.out BK257.out (by decide))); have n4_ := Aside0.mk (hb); have n5_ := Aside0.mk (ho); clear HO_255001 BK249 BK254 BK257 HB HO_11; have HO_255001 := n0_; have BK249 := n1_; have BK254 := n2_; have BK257 := n3_; have HB := n4_; have HO260 := n5_; clear n0_ n1_ n2_ n3_ n4_ n5_ ho hb hg hat)))
                go_roundg kj22
                case measure => have := HK1.out; have := HJ15.out; have := HJ22.out; omega
                case rel => exact ⟨(y258), (((rd_T92 t251 (rd l1 x27_1)).f1)), (wrap64 (x27_1 + 1)), byF, byF, H', ⟨by have := HK1.out; have := HJ15.out; have := HJ22.out; omega⟩, ⟨by (with_reducible repeat (first | apply Kd.R_alloc | apply Kd.R_drewN | apply Kd.R_drew)); exact HO260.out⟩, ⟨by (with_reducible repeat (first | apply Kd.R_alloc | apply Kd.R_drewN | apply Kd.R_drew)); exact Kd.R_mono HO_255001.out (fun _ hk => trivial)⟩, ⟨by (with_reducible repeat (first | refine blk_drewN ?_ _ | refine blk_drew ?_ | refine blk_alloc ?_ _)); exact BK249.out⟩, ⟨by (with_reducible repeat (first | refine blk_drewN ?_ _ | refine blk_drew ?_ | refine blk_alloc ?_ _)); exact BK254.out⟩, ⟨byB3 HB.out GE249.out GE254.out GE257.out⟩⟩
               ·rw [if_neg c52] at H
                exact absurd H (by simp)
              ·rw [if_neg c51] at H
               have c51b0 : decide (((rd_T92 t251 (rd l1 x27_1)).f1) < (l0_2.length : Int)) = false := decide_eq_false c51
               clear c51
               have H' := Aside0.mk H
               clear H; have hnb57 := NB257_249.out; have hnc57 := NB249_257.out; have hnb58 := NB257_254.out; have hnc58 := NB254_257.out
               have hcz59_0 : wc.cell? ⟨gb257, 0, none⟩ = some (.int .i64 ((rd_T92 t251 (rd l1 x27_1)).f0)) := (blk_cell BK257.out 0).trans rfl
               have hcz59_1 : wc.cell? ⟨gb257, 1, none⟩ = some (.int .i64 ((rd_T92 t251 (rd l1 x27_1)).f1)) := (blk_cell BK257.out 1).trans rfl
               have hfz59_0 := blk_frozen BK257.out 0; have hfz59_1 := blk_frozen BK257.out 1
               go_wp2
               repeat (go_quiet (fail); try go_wp2)
               go_roundg kj22
               case measure => have := HK1.out; have := HJ15.out; have := HJ22.out; omega
               case rel => exact ⟨(x11_1), (((rd_T92 t251 (rd l1 x27_1)).f1)), (wrap64 (x27_1 + 1)), byF, byF, H', ⟨by have := HK1.out; have := HJ15.out; have := HJ22.out; omega⟩, ⟨by (with_reducible repeat (first | apply Kd.R_alloc | apply Kd.R_drewN | apply Kd.R_drew)); exact HO_11.out⟩, ⟨by (with_reducible repeat (first | apply Kd.R_alloc | apply Kd.R_drewN | apply Kd.R_drew)); exact Kd.R_mono HO_255001.out (fun _ hk => trivial)⟩, ⟨by (with_reducible repeat (first | refine blk_drewN ?_ _ | refine blk_drew ?_ | refine blk_alloc ?_ _)); exact BK249.out⟩, ⟨by (with_reducible repeat (first | refine blk_drewN ?_ _ | refine blk_drew ?_ | refine blk_alloc ?_ _)); exact BK254.out⟩, ⟨byB3 HB.out GE249.out GE254.out GE257.out⟩⟩
          ·rw [if_neg c22] at H
           exact absurd H (by simp)
         ·rw [if_neg c21] at H
          exact absurd H (by simp)
     ·rw [if_neg c15] at H
      exact absurd H (by simp)
    ·rw [if_neg c14] at H
     exact absurd H (by simp)
   ·rw [if_neg c13] at H
    have c13b0 : decide (x27_1 < (l1.length : Int)) = false := decide_eq_false c13
    clear c13
    by_cases c60 : x12_1 < (wrap64 ((l0_2.length : Int) + (l0_0.length : Int)))
    ·rw [if_pos c60] at H
     have c60b0 : decide (x12_1 < (wrap64 ((l0_2.length : Int) + (l0_0.length : Int)))) = true := decide_eq_true c60
     clear c60
     simp only [Option.some.injEq, Prod.mk.injEq] at H
     obtain ⟨rfl, rfl⟩ := H
     go_wp2
     repeat (go_quiet (fail); try go_wp2)
     go_ret2
     exact ⟨_, byE, by first | exact Kd.R_nil _ _ _ _ _ | exact Kd.N_nil _ _ _ _ _ | exact Kd.V_nil _ _ _ _ _ | exact Kd.Q_nil _ _ _ _ _ | exact Kd.S_nil _ _ _ _ _, byB2 HB.out GE249.out GE254.out⟩
    ·rw [if_neg c60] at H
     have c60b0 : decide (x12_1 < (wrap64 ((l0_2.length : Int) + (l0_0.length : Int)))) = false := decide_eq_false c60
     clear c60
     simp only [Option.some.injEq, Prod.mk.injEq] at H
     obtain ⟨rfl, rfl⟩ := H
     go_wp2
     repeat (go_quiet (fail); try go_wp2)
     go_ret2
     exact ⟨_, byE, by (with_reducible repeat (first | apply Kd.R_alloc | apply Kd.R_drewN | apply Kd.R_drew)); exact HO_11.out, byB2 HB.out GE249.out GE254.out⟩
end Go.Proofs.Ytaodlehnfjalnaa.Print
