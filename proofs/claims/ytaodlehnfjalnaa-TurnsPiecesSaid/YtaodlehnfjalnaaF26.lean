/- Written by a program of this claim's author (xprint.py, over the kit's print.py): the call of mapmaker/mapmakerref47.Pieces comes to what the Lean function of its name says. -/
import Derived.Test.YtaodlehnfjalnaaPrint0
import Derived.Test.YtaodlehnfjalnaaF43
import Derived.Test.YtaodlehnfjalnaaM0
namespace Go.Proofs.Ytaodlehnfjalnaa.Print
open Go.RowKit Go.Proofs.YtaodlehnfjalnaaW.PrintWords Go.Proofs.YtaodlehnfjalnaaW.PrintLast Go.Proofs.YtaodlehnfjalnaaW.PrintMore
attribute [local go_sem] max2_int min2_int max_two min_two max_three min_three max_four min_four   -- for this text's walks alone
set_option linter.unusedVariables false
set_option linter.unusedSimpArgs false
/-! ### mapmakerref47_Pieces: function 26 -/
mutual
def mapmakerref47_Pieces.l0 : Nat → List Int → Int → List Int → Int → Int → List (S92) → Option (List Int × Bool)
 | 0, _, _, _, _, _, _ => none
 | k + 1, x1, x9, x10, x11, x285000, x285001 => if x11 < (x1.length : Int) then (if 0 ≤ x11 then (if (rd x1 x11) < 0 then (mapmakerref47_Pieces.j1 k x1 x9 x10 x11 true x285000 x285001) else (mapmakerref47_Pieces.j1 k x1 x9 x10 x11 (decide ((rd x1 x11) ≥ (x285001.length : Int))) x285000 x285001)) else (none)) else (if (x1.length : Int) = 0 then (some (([] : List Int), false)) else (if 0 ≤ (wrap64 ((x1.length : Int) - 1)) then (if (wrap64 ((x1.length : Int) - 1)) < (x1.length : Int) then (if 0 ≤ (rd x1 (wrap64 ((x1.length : Int) - 1))) then (if (rd x1 (wrap64 ((x1.length : Int) - 1))) < (x285001.length : Int) then (if ((rd_T92 x285001 (rd x1 (wrap64 ((x1.length : Int) - 1)))).f1) < x9 then (some (([] : List Int), false)) else (some (x10, true))) else (none)) else (none)) else (none)) else (none)))
def mapmakerref47_Pieces.j1 : Nat → List Int → Int → List Int → Int → Bool → Int → List (S92) → Option (List Int × Bool)
 | 0, _, _, _, _, _, _, _ => none
 | k + 1, x1, x9, x10, x11, x39, x285000, x285001 => if x39 = true then (some (([] : List Int), false)) else (if 0 ≤ x11 then (if x11 < (x1.length : Int) then (if 0 ≤ (rd x1 x11) then (if (rd x1 x11) < (x285001.length : Int) then (if x11 = 0 then (if ((rd_T92 x285001 (rd x1 x11)).f0) < x9 then (mapmakerref47_Pieces.j2 k x1 x9 x10 x11 true x285000 x285001 ((rd_T92 x285001 (rd x1 x11)).f0) ((rd_T92 x285001 (rd x1 x11)).f1)) else (if x11 > 0 then (if 0 ≤ (wrap64 (x11 - 1)) then (if (wrap64 (x11 - 1)) < (x1.length : Int) then (if 0 ≤ (rd x1 (wrap64 (x11 - 1))) then (if (rd x1 (wrap64 (x11 - 1))) < (x285001.length : Int) then (mapmakerref47_Pieces.j2 k x1 x9 x10 x11 (((rd_T92 x285001 (rd x1 x11)).f0) != ((rd_T92 x285001 (rd x1 (wrap64 (x11 - 1)))).f1)) x285000 x285001 ((rd_T92 x285001 (rd x1 x11)).f0) ((rd_T92 x285001 (rd x1 x11)).f1)) else (none)) else (none)) else (none)) else (none)) else (mapmakerref47_Pieces.j2 k x1 x9 x10 x11 false x285000 x285001 ((rd_T92 x285001 (rd x1 x11)).f0) ((rd_T92 x285001 (rd x1 x11)).f1)))) else (if x11 > 0 then (if 0 ≤ (wrap64 (x11 - 1)) then (if (wrap64 (x11 - 1)) < (x1.length : Int) then (if 0 ≤ (rd x1 (wrap64 (x11 - 1))) then (if (rd x1 (wrap64 (x11 - 1))) < (x285001.length : Int) then (mapmakerref47_Pieces.j2 k x1 x9 x10 x11 (((rd_T92 x285001 (rd x1 x11)).f0) != ((rd_T92 x285001 (rd x1 (wrap64 (x11 - 1)))).f1)) x285000 x285001 ((rd_T92 x285001 (rd x1 x11)).f0) ((rd_T92 x285001 (rd x1 x11)).f1)) else (none)) else (none)) else (none)) else (none)) else (mapmakerref47_Pieces.j2 k x1 x9 x10 x11 false x285000 x285001 ((rd_T92 x285001 (rd x1 x11)).f0) ((rd_T92 x285001 (rd x1 x11)).f1)))) else (none)) else (none)) else (none)) else (none))
def mapmakerref47_Pieces.j2 : Nat → List Int → Int → List Int → Int → Bool → Int → List (S92) → Int → Int → Option (List Int × Bool)
 | 0, _, _, _, _, _, _, _, _, _ => none
 | k + 1, x1, x9, x10, x11, x74, x285000, x285001, x292000, x292001 => if x74 = true then (some (([] : List Int), false)) else (if x292001 < x9 then (if x10.length < 17592186044416 then (mapmakerref47_Pieces.l0 k x1 x9 (x10 ++ [x292001]) (wrap64 (x11 + 1)) x285000 x285001) else (none)) else (mapmakerref47_Pieces.l0 k x1 x9 x10 (wrap64 (x11 + 1)) x285000 x285001))
end
def mapmakerref47_Pieces.f (k : Nat) (l0_0 : List Int) (l0_1 : List (S158)) (l0_2 : List (S58)) (l1 : List Int) (l2 : List (S42)) : Option (List Int × Bool) := (mapmakerref47_Expand.f k l0_0 l0_1 l0_2 l2).bind fun bt280 => (mapmakerref47_Pieces.l0 k l1 (l0_2.length : Int) ([] : List Int) 0 bt280.1 bt280.2)
def mapmakerref47_Pieces.T7 : Bool × List (List Nat × List Nat) := (true, [([], []), ([], []), ([0, 1], [0, 1]), ([2], [2]), ([3], [3]), ([4], [4]), ([5], [5]), ([5], [5]), ([6, 7, 5], [5, 6, 7]), ([8, 5], [5, 8]), ([5], [5]), ([10, 5], [5, 10]), ([11, 5], [5, 11]), ([9, 12, 5], [5, 9, 12]), ([5, 13], [5, 13])])
def mapmakerref47_Pieces.B7 : List Nat := [0, 0, 3, 7, 15, 31, 63, 63, 255, 511, 63, 1087, 3135, 8191, 16383]
theorem mapmakerref47_Pieces.tab7 : rtab .any (opsOf Try.f26 7) = mapmakerref47_Pieces.T7 := by kernel_rfl
theorem mapmakerref47_Pieces.bits7 : waitsOk mapmakerref47_Pieces.T7.2 mapmakerref47_Pieces.B7 = true := by kernel_rfl
def mapmakerref47_Pieces.T9 : Bool × List (List Nat × List Nat) := (true, [([], []), ([0], [0]), ([], []), ([], []), ([2, 3], [2, 3]), ([4], [4]), ([1, 5], [1, 5]), ([6], [6]), ([], []), ([8, 7, 0, 1, 2, 3, 4, 5, 6, 7, 8], [7, 8])])
def mapmakerref47_Pieces.B9 : List Nat := [0, 1, 0, 0, 12, 28, 63, 127, 0, 511]
theorem mapmakerref47_Pieces.tab9 : rtab .any (opsOf Try.f26 9) = mapmakerref47_Pieces.T9 := by kernel_rfl
theorem mapmakerref47_Pieces.bits9 : waitsOk mapmakerref47_Pieces.T9.2 mapmakerref47_Pieces.B9 = true := by kernel_rfl
def mapmakerref47_Pieces.T10 : Bool × List (List Nat × List Nat) := (true, [([], []), ([0], [0]), ([1], [1]), ([2], [2]), ([3, 2], [2, 3]), ([2], [2]), ([4, 5, 2], [2, 4, 5]), ([2, 6], [2, 6]), ([7, 2], [7]), ([8], [8]), ([9, 8], [8, 9]), ([10, 8, 8], [8, 10]), ([11], [11]), ([12, 11], [11, 12]), ([11], [11]), ([14, 11], [11, 14]), ([11], [11]), ([11], [11]), ([17, 11], [11, 17]), ([16, 18, 11], [11, 16, 18]), ([19, 11], [11, 19]), ([15, 20, 11], [11, 15, 20]), ([21, 11], [11, 21]), ([22, 11], [11, 22]), ([13, 23, 11], [11, 13, 23]), ([11, 24, 8], [8, 11, 24]), ([8, 25], [8, 25])])
def mapmakerref47_Pieces.B10 : List Nat := [0, 1, 3, 7, 15, 7, 63, 127, 255, 511, 1023, 2047, 4095, 8191, 4095, 20479, 4095, 4095, 135167, 462847, 987135, 2084863, 4182015, 8376319, 16777215, 33554431, 67108863]
theorem mapmakerref47_Pieces.tab10 : rtab .any (opsOf Try.f26 10) = mapmakerref47_Pieces.T10 := by kernel_rfl
theorem mapmakerref47_Pieces.bits10 : waitsOk mapmakerref47_Pieces.T10.2 mapmakerref47_Pieces.B10 = true := by kernel_rfl
def mapmakerref47_Pieces.T14 : Bool × List (List Nat × List Nat) := (true, [([], []), ([0], [0]), ([1], [1]), ([2], [2]), ([3], [3]), ([4, 3], [3, 4]), ([3], [3]), ([3], [3]), ([7, 3], [3, 7]), ([8, 3], [3, 8]), ([6, 9, 3], [3, 6, 9]), ([10, 3], [3, 10]), ([5, 11, 3], [3, 5, 11]), ([12, 3], [3, 12]), ([13, 3], [3, 13]), ([3], [3]), ([14, 15, 3], [3, 14, 15]), ([3, 16], [3, 16])])
def mapmakerref47_Pieces.B14 : List Nat := [0, 1, 3, 7, 15, 31, 15, 15, 143, 399, 975, 1999, 4095, 8191, 16383, 15, 65535, 131071]
theorem mapmakerref47_Pieces.tab14 : rtab .any (opsOf Try.f26 14) = mapmakerref47_Pieces.T14 := by kernel_rfl
theorem mapmakerref47_Pieces.bits14 : waitsOk mapmakerref47_Pieces.T14.2 mapmakerref47_Pieces.B14 = true := by kernel_rfl
set_option maxHeartbeats 8000000 in
set_option maxRecDepth 100000 in
theorem mapmakerref47_Pieces.calls (k : Nat) (A0_0 : Option Addr) (c0_0 : Nat) (l0_0 : List Int) (A0_1 : Option Addr) (c0_1 : Nat) (l0_1 : List (S158)) (A0_2 : Option Addr) (c0_2 : Nat) (l0_2 : List (S58)) (A1 : Option Addr) (c1 : Nat) (l1 : List Int) (A2 : Option Addr) (c2 : Nat) (l2 : List (S42)) (r1 : List Int) (r2 : Bool) (w : World) (hr0_0 : Kd.C (Kd.int .i64) w A0_0 l0_0.length l0_0) (hc0_0 : l0_0.length ≤ c0_0) (hr0_1 : Kd.C k158 w A0_1 l0_1.length l0_1) (hc0_1 : l0_1.length ≤ c0_1) (hr0_2 : Kd.C k58 w A0_2 l0_2.length l0_2) (hc0_2 : l0_2.length ≤ c0_2) (hr1 : Kd.C (Kd.int .i64) w A1 l1.length l1) (hc1 : l1.length ≤ c1) (hr2 : Kd.C k42 w A2 l2.length l2) (hc2 : l2.length ≤ c2) (h : mapmakerref47_Pieces.f k l0_0 l0_1 l0_2 l1 l2 = some (r1, r2)) :
  Calls Try.prog 26 #[.agg #[.slice A0_0 l0_0.length c0_0, .slice A0_1 l0_1.length c0_1, .slice A0_2 l0_2.length c0_2], .slice A1 l1.length c1, .slice A2 l2.length c2] w fun e w' => ∃ v0_ : Value, e = .returned (.tuple #[v0_, .bool r2]) ∧ Kd.R (Kd.int .i64) 3 w' w.heap.size (fun _ => True) v0_ r1 ∧ Below w.heap.size w w' := by
 have hu37 := Try.underlying37; have hu51 := Try.underlying51; have hu92 := Try.underlying92; have HR0_0 := Aside0.mk hr0_0; have HC0_0 := Aside0.mk hc0_0; clear hr0_0 hc0_0; have HR0_1 := Aside0.mk hr0_1; have HC0_1 := Aside0.mk hc0_1; clear hr0_1 hc0_1; have HR0_2 := Aside0.mk hr0_2; have HC0_2 := Aside0.mk hc0_2; clear hr0_2 hc0_2; have HR1 := Aside0.mk hr1; have HC1 := Aside0.mk hc1; clear hr1 hc1; have HR2 := Aside0.mk hr2; have HC2 := Aside0.mk hc2; clear hr2 hc2; have HB := Aside0.mk (Below.refl w.heap.size w)
 have H : ((mapmakerref47_Expand.f k l0_0 l0_1 l0_2 l2).bind fun bt280 => (mapmakerref47_Pieces.l0 k l1 (l0_2.length : Int) ([] : List Int) 0 bt280.1 bt280.2)) = some (r1, r2) := h
 clear h
 replace H := Option.bind_eq_some_iff.mp H
 obtain ⟨⟨t280, t281⟩, A40, H⟩ := H
 replace H : (mapmakerref47_Pieces.l0 k l1 (l0_2.length : Int) ([] : List Int) 0 t280 t281) = some (r1, r2) := H
 have A4 := Aside0.mk A40; clear A40
 have H' := Aside0.mk H
 clear H
 go_enter Try.func26, Try.ntmps26
 go_wp2_with (first | ((with_reducible refine gate_dst (N := 3) rfl ?_); (try (refine gate_guard (by rfl) ?_; dsimp only)); refine box_event ?hg (N := 3) ?hd (cs := #[.slice A0_0 l0_0.length c0_0, .slice A0_1 l0_1.length c0_1, .slice A0_2 l0_2.length c0_2]) (t := 37) ?hr ?_; (case hd => rfl); (case hg => rfl); (case hr => first | (go_simp; done) | (go_simp; rfl)); intro gb279 hg w5 hbox hb; have n0_ := Aside0.mk (below_step (byB HB.out) hb); have n1_ := Aside0.mk (hbox); have n2_ := Aside0.mk ((by rw [hg]; exact (below_size (byB HB.out)) : w.heap.size ≤ gb279)); have n3_ := Aside0.mk ((by rw [hg]; exact (below_size (byB HB.out)) : w.heap.size ≤ gb279)); clear HB; have HB := n0_; have BK279 := n1_; have GW279 := n2_; have GE279 := n3_; clear n0_ n1_ n2_ n3_ hb hbox hg; have hcz6_0 : w5.cell? ⟨gb279, 0, none⟩ = some (.slice A0_0 l0_0.length c0_0) := (blk_cell BK279.out 0).trans rfl; have hcz6_1 : w5.cell? ⟨gb279, 1, none⟩ = some (.slice A0_1 l0_1.length c0_1) := (blk_cell BK279.out 1).trans rfl; have hcz6_2 : w5.cell? ⟨gb279, 2, none⟩ = some (.slice A0_2 l0_2.length c0_2) := (blk_cell BK279.out 2).trans rfl; have hfz6_0 := blk_frozen BK279.out 0; have hfz6_1 := blk_frozen BK279.out 1; have hfz6_2 := blk_frozen BK279.out 2) | ((with_reducible refine gate_callee (f := 43) rfl ?_); refine goesL_ (some 15) rfl rfl Try.func43 (by kernel_rfl) rfl #[.agg #[.slice A0_0 l0_0.length c0_0, .slice A0_1 l0_1.length c0_1, .slice A0_2 l0_2.length c0_2], .slice A2 l2.length c2] rfl byL ?_; (with_reducible refine (mapmakerref47_Expand.calls k _ _ l0_0 _ _ l0_1 _ _ l0_2 _ _ l2 t280 t281 _ ?side1 ?side2 ?side3 ?side4 ?side5 ?side6 ?side7 ?side8 A4.out).mono ?_); (case side1 => exact byC (Kd.C_below HR0_0.out HB.out)); (case side2 => exact HC0_0.out); (case side3 => exact byC (Kd.C_below HR0_1.out HB.out)); (case side4 => exact HC0_1.out); (case side5 => exact byC (Kd.C_below HR0_2.out HB.out)); (case side6 => exact HC0_2.out); (case side7 => exact byC (Kd.C_below HR2.out HB.out)); (case side8 => exact HC2.out); rintro e w7 ⟨v282, rfl, ho0, hb⟩; refine ⟨_, rfl, ?_⟩; have n0_ := Aside0.mk (Kd.R_lower ho0 (below_size (byB1 HB.out GE279.out))); have n1_ := Aside0.mk (blk_below (g := gb279) (o := .cells #[.slice A0_0 l0_0.length c0_0, .slice A0_1 l0_1.length c0_1, .slice A0_2 l0_2.length c0_2] 37 (0, 0)) (byK BK279.out) hb); have n2_ := Aside0.mk (below_step (byB1 HB.out GE279.out) hb); clear BK279 HB; have HO283 := n0_; have BK279 := n1_; have HB := n2_; clear n0_ n1_ n2_; (try clear hb); (try clear hb2); (try clear hk); (try clear hi); (try clear ho0)) | ((with_reducible refine gate_dst (N := 8) rfl ?_); (try (refine gate_guard (by rfl) ?_; dsimp only)); refine box_event ?hg (N := 8) ?hd (cs := #[.int .i64 0, .slice none 0 0]) (t := 51) ?hr ?_; (case hd => rfl); (case hg => rfl); (case hr => first | (go_simp; done) | (go_simp; rfl)); intro gb284 hg w8 hbox hb; have n0_ := Aside0.mk (Kd.R_below (byR HO283.out) hb); have n1_ := Aside0.mk (blk_below (g := gb279) (o := .cells #[.slice A0_0 l0_0.length c0_0, .slice A0_1 l0_1.length c0_1, .slice A0_2 l0_2.length c0_2] 37 (0, 0)) (byK BK279.out) hb); have n2_ := Aside0.mk (below_step (byB1 HB.out GE279.out) hb); have n3_ := Aside0.mk (hbox); have n4_ := Aside0.mk ((by rw [hg]; exact (below_size (byB1 HB.out GE279.out)) : w.heap.size ≤ gb284)); have n5_ := Aside0.mk ((by rw [hg]; exact (below_size (byB1 HB.out GE279.out)) : w.heap.size ≤ gb284)); have n6_ := Aside0.mk ((by rw [hg]; exact Nat.ne_of_lt (blk_lt (g := gb279) (o := .cells #[.slice A0_0 l0_0.length c0_0, .slice A0_1 l0_1.length c0_1, .slice A0_2 l0_2.length c0_2] 37 (0, 0)) (byK BK279.out)) : gb279 ≠ gb284)); have n7_ := Aside0.mk ((by rw [hg]; exact Nat.ne_of_gt (blk_lt (g := gb279) (o := .cells #[.slice A0_0 l0_0.length c0_0, .slice A0_1 l0_1.length c0_1, .slice A0_2 l0_2.length c0_2] 37 (0, 0)) (byK BK279.out)) : gb284 ≠ gb279)); clear HO283 BK279 HB; have HO283 := n0_; have BK279 := n1_; have HB := n2_; have BK284 := n3_; have GW284 := n4_; have GE284 := n5_; have NB279_284 := n6_; have NB284_279 := n7_; clear n0_ n1_ n2_ n3_ n4_ n5_ n6_ n7_ hb hbox hg; have hnb9 := NB284_279.out; have hnc9 := NB279_284.out; have hcz10_0 : w8.cell? ⟨gb284, 0, none⟩ = some (.int .i64 0) := (blk_cell BK284.out 0).trans rfl; have hcz10_1 : w8.cell? ⟨gb284, 1, none⟩ = some (.slice none 0 0) := (blk_cell BK284.out 1).trans rfl; have hfz10_0 := blk_frozen BK284.out 0; have hfz10_1 := blk_frozen BK284.out 1; obtain ⟨Ao11, co11, eo11⟩ := Kd.R_slice HO283.out; subst eo11; have hcz12_0 : w8.cell? ⟨gb279, 0, none⟩ = some (.slice A0_0 l0_0.length c0_0) := (blk_cell BK279.out 0).trans rfl; have hcz12_1 : w8.cell? ⟨gb279, 1, none⟩ = some (.slice A0_1 l0_1.length c0_1) := (blk_cell BK279.out 1).trans rfl; have hcz12_2 : w8.cell? ⟨gb279, 2, none⟩ = some (.slice A0_2 l0_2.length c0_2) := (blk_cell BK279.out 2).trans rfl; have hfz12_0 := blk_frozen BK279.out 0; have hfz12_1 := blk_frozen BK279.out 1; have hfz12_2 := blk_frozen BK279.out 2))
 go_loopg [10, 11] k (fun kq v10 v11 w' => ∃ (x10_1 : List Int) (x11_1 : Int), v11 = .int .i64 x11_1 ∧ Aside0 (mapmakerref47_Pieces.l0 kq l1 (l0_2.length : Int) x10_1 x11_1 t280 t281 = some (r1, r2)) ∧ Aside0 (kq ≤ k) ∧ Aside0 (Kd.R (Kd.int .i64) 3 w' w.heap.size (fun _ => True) v10 x10_1) ∧ Aside0 (Kd.R k92 92 w' w.heap.size (fun _ => True) (.slice Ao11 t281.length co11) t281) ∧ Aside0 (w'.heap[gb279]? = some (.cells #[(.slice A0_0 l0_0.length c0_0), (.slice A0_1 l0_1.length c0_1), (.slice A0_2 l0_2.length c0_2)] 37 (0, 0))) ∧ Aside0 (w'.heap[gb284]? = some (.cells #[.int .i64 t280, (.slice Ao11 t281.length co11)] 51 (0, 0))) ∧ Aside0 (Below w.heap.size w w'))
 case atStart => exact ⟨(([] : List Int)), (0), byF, H', ⟨Nat.le_refl _⟩, ⟨by first | exact Kd.R_nil _ _ _ _ _ | exact Kd.N_nil _ _ _ _ _ | exact Kd.V_nil _ _ _ _ _ | exact Kd.Q_nil _ _ _ _ _ | exact Kd.S_nil _ _ _ _ _⟩, ⟨by (with_reducible repeat (first | apply Kd.R_alloc | apply Kd.R_drewN | apply Kd.R_drew)); exact Kd.R_mono (Kd.R_far (p := ⟨gb284, 1, none⟩) (Kd.R_far (p := ⟨gb284, 0, none⟩) (Kd.R_types HO283.out BK284.out (by decide)) (fun _ hk => hk.2) (.int .i64 t280)) (fun _ hk => hk.2) (.slice Ao11 t281.length co11)) (fun _ hk => trivial)⟩, ⟨by (with_reducible repeat (first | refine blk_drewN ?_ _ | refine blk_drew ?_ | refine blk_alloc ?_ _)); refine blk_far ?_ NB279_284.out _; (with_reducible repeat (first | refine blk_drewN ?_ _ | refine blk_drew ?_ | refine blk_alloc ?_ _)); refine blk_far ?_ NB279_284.out _; (with_reducible repeat (first | refine blk_drewN ?_ _ | refine blk_drew ?_ | refine blk_alloc ?_ _)); exact BK279.out⟩, ⟨by (with_reducible repeat (first | refine blk_drewN ?_ _ | refine blk_drew ?_ | refine blk_alloc ?_ _)); refine blk_put (cs := #[.int .i64 t280, .slice none 0 0]) ?_ 1 _ rfl; (with_reducible repeat (first | refine blk_drewN ?_ _ | refine blk_drew ?_ | refine blk_alloc ?_ _)); refine blk_put (cs := #[.int .i64 0, .slice none 0 0]) ?_ 0 _ rfl; (with_reducible repeat (first | refine blk_drewN ?_ _ | refine blk_drew ?_ | refine blk_alloc ?_ _)); exact BK284.out⟩, ⟨byB2 HB.out GE279.out GE284.out⟩⟩
 case round =>
  clear H'
  try clear c1
  try clear c2
  try clear p2
  try clear c4
  try clear c9
  try clear hcz10_0
  try clear hcz10_1
  try clear hcz12_0
  try clear hcz12_1
  try clear hcz12_2
  try clear hcz6_0
  try clear hcz6_1
  try clear hcz6_2
  try clear hfz10_0
  try clear hfz10_1
  try clear hfz12_0
  try clear hfz12_1
  try clear hfz12_2
  try clear hfz6_0
  try clear hfz6_1
  try clear hfz6_2
  obtain ⟨x10_1, x11_1, rfl, HA, HK1, HO_10, HO_285001, BK279, BK284, HB⟩ := hrel
  cases gk with
  | zero => exact absurd HA.out (by simp [mapmakerref47_Pieces.l0])
  | succ k1 =>
   have H := HA.out; clear HA
   simp only [mapmakerref47_Pieces.l0] at H
   by_cases c13 : x11_1 < (l1.length : Int)
   ·rw [if_pos c13] at H
    have c13b0 : decide (x11_1 < (l1.length : Int)) = true := decide_eq_true c13
    clear c13; have HC14 := Aside0.mk H; clear H
    go_upto_region 7 with (fail)
    go_cut [39] (fun v39 wc => ∃ (kq : Nat) (x39_13 : Bool), v39 = .bool x39_13 ∧ Aside0 (mapmakerref47_Pieces.j1 kq l1 (l0_2.length : Int) x10_1 x11_1 x39_13 t280 t281 = some (r1, r2)) ∧ Aside0 (kq ≤ k1) ∧ Aside0 (Kd.R (Kd.int .i64) 3 wc w.heap.size (fun _ => True) u10 x10_1) ∧ Aside0 (Kd.R k92 92 wc w.heap.size (fun _ => True) (.slice Ao11 t281.length co11) t281) ∧ Aside0 (wc.heap[gb279]? = some (.cells #[(.slice A0_0 l0_0.length c0_0), (.slice A0_1 l0_1.length c0_1), (.slice A0_2 l0_2.length c0_2)] 37 (0, 0))) ∧ Aside0 (wc.heap[gb284]? = some (.cells #[.int .i64 t280, (.slice Ao11 t281.length co11)] 51 (0, 0))) ∧ Aside0 (Below w.heap.size w wc))
    case first =>
     have H := HC14.out; clear HC14
     by_cases c15 : 0 ≤ x11_1
     ·rw [if_pos c15] at H
      have c15b0 : decide (0 ≤ x11_1) = true := decide_eq_true c15
      clear c15
      (first | rw [c15b0] | (simp only [i64_w, i32_w]; rw [c15b0]) | skip)
      by_cases c16 : (rd l1 x11_1) < 0
      ·rw [if_pos c16] at H
       have c16b0 : decide ((rd l1 x11_1) < 0) = true := decide_eq_true c16
       clear c16
       have H' := Aside0.mk H
       clear H
       try go_wp2
       have n0_ := Aside0.mk (Kd.R_drew HO_10.out); have n1_ := Aside0.mk (Kd.R_drew HO_285001.out); have n2_ := Aside0.mk (blk_drew BK279.out); have n3_ := Aside0.mk (blk_drew BK284.out); have n4_ := Aside0.mk (below_drew1 HB.out); clear HO_10 HO_285001 BK279 BK284 HB; have HO_10 := n0_; have HO_285001 := n1_; have BK279 := n2_; have BK284 := n3_; have HB := n4_; clear n0_ n1_ n2_ n3_ n4_
       have p287 : 0 ≤ (x11_1 : Int) := odt
       have q287 : x11_1 < (l1.length : Int) := odt
       obtain ⟨ad287, e287, hx287_0⟩ := Kd.at_int HR1.out x11_1 p287 q287
       have hw287_0 := hx287_0
       cases e287
       replace hx287_0 := (HB.out.cell (World.block_lt_of_cell? w _ hx287_0)).trans hx287_0
       replace p287 := eq_true p287; replace q287 := eq_true q287
       refine start_ (n := 15) (S := fun w' => w'.cell? (ad287.add (x11_1).toNat) = some (.int .i64 (rd l1 x11_1))) (ds := []) (bits 15 0) (by kernel_rfl) rfl rfl (((HB.out.cell (World.block_lt_of_cell? w _ hw287_0)).trans hw287_0)) (fun hHeld => ?_); refine with_tabW mapmakerref47_Pieces.tab7 mapmakerref47_Pieces.bits7 (fun HT_ HW_ => ?_)
       generalize wr.drew = w17 at HO_10 HO_285001 BK279 BK284 HB hx287_0 hHeld ⊢
       refine q_ 0 25 HT_ ?_; refine q_ 1 26 HT_ ?_; refine q_ 2 27 HT_ ?_; refine r1_ 3 28 HT_ HW_ hHeld ?_; refine q_ 4 29 HT_ ?_; refine q_ 5 30 HT_ ?_; refine qu_ 6 31 HT_ ?_; refine qu_ 7 32 HT_ ?_; refine qu_ 8 33 HT_ ?_; refine qu_ 9 34 HT_ ?_; refine qu_ 10 35 HT_ ?_; refine qu_ 11 36 HT_ ?_; refine qu_ 12 37 HT_ ?_; refine qu_ 13 38 HT_ ?_; refine q_ 14 39 HT_ ?_
       refine done_ (done_of HT_.out (by kernel_rfl)) ?_
       try go_wp2
       go_meet
       case rel => exact ⟨_, (true), byF, H', ⟨by have := HK1.out; first | omega | exact Nat.le_refl _⟩, ⟨by (with_reducible repeat (first | apply Kd.R_alloc | apply Kd.R_drewN | apply Kd.R_drew)); exact HO_10.out⟩, ⟨by (with_reducible repeat (first | apply Kd.R_alloc | apply Kd.R_drewN | apply Kd.R_drew)); exact HO_285001.out⟩, ⟨by (with_reducible repeat (first | refine blk_drewN ?_ _ | refine blk_drew ?_ | refine blk_alloc ?_ _)); exact BK279.out⟩, ⟨by (with_reducible repeat (first | refine blk_drewN ?_ _ | refine blk_drew ?_ | refine blk_alloc ?_ _)); exact BK284.out⟩, ⟨byB2 HB.out GE279.out GE284.out⟩⟩
      ·rw [if_neg c16] at H
       have c16b0 : decide ((rd l1 x11_1) < 0) = false := decide_eq_false c16
       clear c16
       have H' := Aside0.mk H
       clear H
       try go_wp2
       have n0_ := Aside0.mk (Kd.R_drew HO_10.out); have n1_ := Aside0.mk (Kd.R_drew HO_285001.out); have n2_ := Aside0.mk (blk_drew BK279.out); have n3_ := Aside0.mk (blk_drew BK284.out); have n4_ := Aside0.mk (below_drew1 HB.out); clear HO_10 HO_285001 BK279 BK284 HB; have HO_10 := n0_; have HO_285001 := n1_; have BK279 := n2_; have BK284 := n3_; have HB := n4_; clear n0_ n1_ n2_ n3_ n4_
       have p287 : 0 ≤ (x11_1 : Int) := odt
       have q287 : x11_1 < (l1.length : Int) := odt
       obtain ⟨ad287, e287, hx287_0⟩ := Kd.at_int HR1.out x11_1 p287 q287
       have hw287_0 := hx287_0
       cases e287
       replace hx287_0 := (HB.out.cell (World.block_lt_of_cell? w _ hx287_0)).trans hx287_0
       replace p287 := eq_true p287; replace q287 := eq_true q287
       have p288 : 0 ≤ (x11_1 : Int) := odt
       have q288 : x11_1 < (l1.length : Int) := odt
       obtain ⟨ad288, e288, hx288_0⟩ := Kd.at_int HR1.out x11_1 p288 q288
       have hw288_0 := hx288_0
       obtain rfl : ad287 = ad288 := (by injection e288)
       replace hx288_0 := (HB.out.cell (World.block_lt_of_cell? w _ hx288_0)).trans hx288_0
       replace p288 := eq_true p288; replace q288 := eq_true q288
       refine start_ (n := 15) (S := fun w' => w'.cell? ⟨gb284, 0, none⟩ = some (.int .i64 t280) ∧ w'.cell? ⟨gb284, 1, none⟩ = some (.slice Ao11 t281.length co11) ∧ w'.cell? (ad287.add (x11_1).toNat) = some (.int .i64 (rd l1 x11_1)) ∧ w'.cell? (ad287.add (x11_1).toNat) = some (.int .i64 (rd l1 x11_1))) (ds := []) (bits 15 0) (by kernel_rfl) rfl rfl ⟨(blk_cell BK284.out 0).trans rfl, (blk_cell BK284.out 1).trans rfl, ((HB.out.cell (World.block_lt_of_cell? w _ hw287_0)).trans hw287_0), ((HB.out.cell (World.block_lt_of_cell? w _ hw288_0)).trans hw288_0)⟩ (fun hHeld => ?_); refine with_tabW mapmakerref47_Pieces.tab7 mapmakerref47_Pieces.bits7 (fun HT_ HW_ => ?_)
       generalize wr.drew = w18 at HO_10 HO_285001 BK279 BK284 HB hx287_0 hx288_0 hHeld ⊢
       refine q_ 0 25 HT_ ?_; refine q_ 1 26 HT_ ?_; refine q_ 2 27 HT_ ?_; refine r4_ 3 28 HT_ HW_ hHeld ?_; refine q_ 4 29 HT_ ?_; refine q_ 5 30 HT_ ?_; refine q_ 6 31 HT_ ?_; refine q_ 7 32 HT_ ?_; refine q_ 8 33 HT_ ?_; refine q_ 10 35 HT_ ?_; refine r4_ 9 34 HT_ HW_ hHeld ?_; refine r4_ 11 36 HT_ HW_ hHeld ?_; refine q_ 12 37 HT_ ?_; refine q_ 13 38 HT_ ?_; refine q_ 14 39 HT_ ?_
       refine done_ (done_of HT_.out (by kernel_rfl)) ?_
       try go_wp2
       go_meet
       case rel => exact ⟨_, (decide ((rd l1 x11_1) ≥ (t281.length : Int))), byF, H', ⟨by have := HK1.out; first | omega | exact Nat.le_refl _⟩, ⟨by (with_reducible repeat (first | apply Kd.R_alloc | apply Kd.R_drewN | apply Kd.R_drew)); exact HO_10.out⟩, ⟨by (with_reducible repeat (first | apply Kd.R_alloc | apply Kd.R_drewN | apply Kd.R_drew)); exact HO_285001.out⟩, ⟨by (with_reducible repeat (first | refine blk_drewN ?_ _ | refine blk_drew ?_ | refine blk_alloc ?_ _)); exact BK279.out⟩, ⟨by (with_reducible repeat (first | refine blk_drewN ?_ _ | refine blk_drew ?_ | refine blk_alloc ?_ _)); exact BK284.out⟩, ⟨byB2 HB.out GE279.out GE284.out⟩⟩
     ·rw [if_neg c15] at H
      exact absurd H (by simp)
    case rest =>
     clear HC14
     try clear c1
     try clear c2
     try clear p2
     try clear q2
     try clear hx2
     try clear c4
     try clear c9
     try clear c13
     try clear c13b0
     try clear c15
     try clear c15b0
     try clear c16
     try clear c16b0
     try clear hcz10_0
     try clear hcz10_1
     try clear hcz12_0
     try clear hcz12_1
     try clear hcz12_2
     try clear hcz6_0
     try clear hcz6_1
     try clear hcz6_2
     try clear hfz10_0
     try clear hfz10_1
     try clear hfz12_0
     try clear hfz12_1
     try clear hfz12_2
     try clear hfz6_0
     try clear hfz6_1
     try clear hfz6_2
     try clear hx287_0
     try clear hx288_0
     try clear p2
     try clear p287
     try clear p288
     try clear q287
     try clear q288
     obtain ⟨kq, x39_13, rfl, HA, HJ13, HO_10, HO_285001, BK279, BK284, HB⟩ := hcut
     cases kq with
     | zero => exact absurd HA.out (by simp [mapmakerref47_Pieces.j1])
     | succ kj13 =>
      have H := HA.out; clear HA
      simp only [mapmakerref47_Pieces.j1] at H
      by_cases c19 : x39_13 = true
      ·subst c19
       have H1 : (some (([] : List Int), false)) = some (r1, r2) := by rw [if_pos rfl] at H; exact H
       clear H; have H := H1; clear H1
       simp only [Option.some.injEq, Prod.mk.injEq] at H
       obtain ⟨rfl, rfl⟩ := H
       go_wp2
       go_ret2
       exact ⟨_, byE, by first | exact Kd.R_nil _ _ _ _ _ | exact Kd.N_nil _ _ _ _ _ | exact Kd.V_nil _ _ _ _ _ | exact Kd.Q_nil _ _ _ _ _ | exact Kd.S_nil _ _ _ _ _, byB2 HB.out GE279.out GE284.out⟩
      ·replace c19 := Bool.eq_false_iff.mpr c19
       subst c19
       have H1 : (if 0 ≤ x11_1 then (if x11_1 < (l1.length : Int) then (if 0 ≤ (rd l1 x11_1) then (if (rd l1 x11_1) < (t281.length : Int) then (if x11_1 = 0 then (if ((rd_T92 t281 (rd l1 x11_1)).f0) < (l0_2.length : Int) then (mapmakerref47_Pieces.j2 kj13 l1 (l0_2.length : Int) x10_1 x11_1 true t280 t281 ((rd_T92 t281 (rd l1 x11_1)).f0) ((rd_T92 t281 (rd l1 x11_1)).f1)) else (if x11_1 > 0 then (if 0 ≤ (wrap64 (x11_1 - 1)) then (if (wrap64 (x11_1 - 1)) < (l1.length : Int) then (if 0 ≤ (rd l1 (wrap64 (x11_1 - 1))) then (if (rd l1 (wrap64 (x11_1 - 1))) < (t281.length : Int) then (mapmakerref47_Pieces.j2 kj13 l1 (l0_2.length : Int) x10_1 x11_1 (((rd_T92 t281 (rd l1 x11_1)).f0) != ((rd_T92 t281 (rd l1 (wrap64 (x11_1 - 1)))).f1)) t280 t281 ((rd_T92 t281 (rd l1 x11_1)).f0) ((rd_T92 t281 (rd l1 x11_1)).f1)) else (none)) else (none)) else (none)) else (none)) else (mapmakerref47_Pieces.j2 kj13 l1 (l0_2.length : Int) x10_1 x11_1 false t280 t281 ((rd_T92 t281 (rd l1 x11_1)).f0) ((rd_T92 t281 (rd l1 x11_1)).f1)))) else (if x11_1 > 0 then (if 0 ≤ (wrap64 (x11_1 - 1)) then (if (wrap64 (x11_1 - 1)) < (l1.length : Int) then (if 0 ≤ (rd l1 (wrap64 (x11_1 - 1))) then (if (rd l1 (wrap64 (x11_1 - 1))) < (t281.length : Int) then (mapmakerref47_Pieces.j2 kj13 l1 (l0_2.length : Int) x10_1 x11_1 (((rd_T92 t281 (rd l1 x11_1)).f0) != ((rd_T92 t281 (rd l1 (wrap64 (x11_1 - 1)))).f1)) t280 t281 ((rd_T92 t281 (rd l1 x11_1)).f0) ((rd_T92 t281 (rd l1 x11_1)).f1)) else (none)) else (none)) else (none)) else (none)) else (mapmakerref47_Pieces.j2 kj13 l1 (l0_2.length : Int) x10_1 x11_1 false t280 t281 ((rd_T92 t281 (rd l1 x11_1)).f0) ((rd_T92 t281 (rd l1 x11_1)).f1)))) else (none)) else (none)) else (none)) else (none)) = some (r1, r2) := by rw [if_neg (show ¬ (false = true) by decide)] at H; exact H
       clear H; have H := H1; clear H1
       by_cases c20 : 0 ≤ x11_1
       ·rw [if_pos c20] at H
        have c20b0 : decide (0 ≤ x11_1) = true := decide_eq_true c20
        clear c20
        by_cases c21 : x11_1 < (l1.length : Int)
        ·rw [if_pos c21] at H
         have c21b0 : decide (x11_1 < (l1.length : Int)) = true := decide_eq_true c21
         clear c21
         by_cases c22 : 0 ≤ (rd l1 x11_1)
         ·rw [if_pos c22] at H
          have c22b0 : decide (0 ≤ (rd l1 x11_1)) = true := decide_eq_true c22
          clear c22
          by_cases c23 : (rd l1 x11_1) < (t281.length : Int)
          ·rw [if_pos c23] at H
           have c23b0 : decide ((rd l1 x11_1) < (t281.length : Int)) = true := decide_eq_true c23
           clear c23; have HC24 := Aside0.mk H; clear H
           try go_wp2
           have n0_ := Aside0.mk (Kd.R_drew HO_10.out); have n1_ := Aside0.mk (Kd.R_drew HO_285001.out); have n2_ := Aside0.mk (blk_drew BK279.out); have n3_ := Aside0.mk (blk_drew BK284.out); have n4_ := Aside0.mk (below_drew1 HB.out); clear HO_10 HO_285001 BK279 BK284 HB; have HO_10 := n0_; have HO_285001 := n1_; have BK279 := n2_; have BK284 := n3_; have HB := n4_; clear n0_ n1_ n2_ n3_ n4_
           have p289 : 0 ≤ (x11_1 : Int) := odt
           have q289 : x11_1 < (l1.length : Int) := odt
           obtain ⟨ad289, e289, hx289_0⟩ := Kd.at_int HR1.out x11_1 p289 q289
           have hw289_0 := hx289_0
           cases e289
           replace hx289_0 := (HB.out.cell (World.block_lt_of_cell? w _ hx289_0)).trans hx289_0
           replace p289 := eq_true p289; replace q289 := eq_true q289
           have p290 : 0 ≤ ((rd l1 x11_1) : Int) := odt
           have q290 : (rd l1 x11_1) < (t281.length : Int) := odt
           obtain ⟨ad290, e290, hx290_0, hx290_1⟩ := at_T92 (Kd.R_reads' HO_285001.out).2.2 (rd l1 x11_1) p290 q290
           cases e290
           replace p290 := eq_true p290; replace q290 := eq_true q290
           refine start_ (n := 10) (S := fun w' => w'.cell? ⟨gb284, 0, none⟩ = some (.int .i64 t280) ∧ w'.cell? ⟨gb284, 1, none⟩ = some (.slice (some ad290) t281.length co11) ∧ w'.cell? (ad289.add (x11_1).toNat) = some (.int .i64 (rd l1 x11_1)) ∧ w'.cell? (ad290.add (((rd l1 x11_1)).toNat * 2)) = some (.int .i64 ((rd_T92 t281 (rd l1 x11_1)).f0)) ∧ w'.cell? ⟨(ad290.add (((rd l1 x11_1)).toNat * 2)).block, (ad290.add (((rd l1 x11_1)).toNat * 2)).off + 1, none⟩ = some (.int .i64 ((rd_T92 t281 (rd l1 x11_1)).f1))) (ds := []) (bits 10 0) (by kernel_rfl) rfl rfl ⟨(blk_cell BK284.out 0).trans rfl, (blk_cell BK284.out 1).trans rfl, ((HB.out.cell (World.block_lt_of_cell? w _ hw289_0)).trans hw289_0), hx290_0, hx290_1⟩ (fun hHeld => ?_); refine with_tabW mapmakerref47_Pieces.tab9 mapmakerref47_Pieces.bits9 (fun HT_ HW_ => ?_)
           generalize wc.drew = w25 at HO_10 HO_285001 BK279 BK284 HB hx289_0 hx290_0 hx290_1 hHeld ⊢
           refine q_ 0 40 HT_ ?_; refine q_ 2 42 HT_ ?_; refine q_ 3 43 HT_ ?_; refine q_ 4 44 HT_ ?_; refine r5_ 1 41 HT_ HW_ hHeld ?_; refine r5_ 5 45 HT_ HW_ hHeld ?_; refine q_ 6 46 HT_ ?_; refine r5_ 7 47 HT_ HW_ hHeld ?_; refine one_ (i := 8) (N := some 12) (bits 10 511) rfl rfl (one_of HT_.out (by kernel_rfl)) (by decide) (fun K hK => ?_)
           refine box_step ?hg (N := 12) ?hd (cs := #[.int .i64 0, .int .i64 0]) (t := 92) ?hr ?_; (case hd => rfl); (case hg => rfl); (case hr => first | (go_simp; done) | (go_simp; rfl))
           intro gb291 hg w26 hbox hb
           have HS3_ := (hb.cell (World.block_lt_of_cell? _ _ (hHeld.2.2.2.1))).trans (hHeld.2.2.2.1)
           have HS4_ := (hb.cell (World.block_lt_of_cell? _ _ (hHeld.2.2.2.2))).trans (hHeld.2.2.2.2)
           have n0_ := Aside0.mk (Kd.R_below (byR HO_10.out) hb); have n1_ := Aside0.mk (Kd.R_below (Kd.R_elderB (byR HO_285001.out) gb291 (Nat.le_of_eq hg.symm)) hb); have n2_ := Aside0.mk (blk_below (g := gb279) (o := .cells #[.slice A0_0 l0_0.length c0_0, .slice A0_1 l0_1.length c0_1, .slice A0_2 l0_2.length c0_2] 37 (0, 0)) (byK BK279.out) hb); have n3_ := Aside0.mk (blk_below (g := gb284) (o := .cells #[.int .i64 t280, .slice (some ad290) t281.length co11] 51 (0, 0)) (byK BK284.out) hb); have n4_ := Aside0.mk (below_step (byB2 HB.out GE279.out GE284.out) hb); have n5_ := Aside0.mk (hbox); have n6_ := Aside0.mk ((by rw [hg]; exact (below_size (byB2 HB.out GE279.out GE284.out)) : w.heap.size ≤ gb291)); have n7_ := Aside0.mk ((by rw [hg]; exact (below_size (byB2 HB.out GE279.out GE284.out)) : w.heap.size ≤ gb291)); have n8_ := Aside0.mk ((by rw [hg]; exact Nat.ne_of_lt (blk_lt (g := gb279) (o := .cells #[.slice A0_0 l0_0.length c0_0, .slice A0_1 l0_1.length c0_1, .slice A0_2 l0_2.length c0_2] 37 (0, 0)) (byK BK279.out)) : gb279 ≠ gb291)); have n9_ := Aside0.mk ((by rw [hg]; exact Nat.ne_of_gt (blk_lt (g := gb279) (o := .cells #[.slice A0_0 l0_0.length c0_0, .slice A0_1 l0_1.length c0_1, .slice A0_2 l0_2.length c0_2] 37 (0, 0)) (byK BK279.out)) : gb291 ≠ gb279)); have n10_ := Aside0.mk ((by rw [hg]; exact Nat.ne_of_lt (blk_lt (g := gb284) (o := .cells #[.int .i64 t280, .slice (some ad290) t281.length co11] 51 (0, 0)) (byK BK284.out)) : gb284 ≠ gb291)); have n11_ := Aside0.mk ((by rw [hg]; exact Nat.ne_of_gt (blk_lt (g := gb284) (o := .cells #[.int .i64 t280, .slice (some ad290) t281.length co11] 51 (0, 0)) (byK BK284.out)) : gb291 ≠ gb284)); clear HO_10 HO_285001 BK279 BK284 HB; have HO_10 := n0_; have HO_285001 := n1_; have BK279 := n2_; have BK284 := n3_; have HB := n4_; have BK291 := n5_; have GW291 := n6_; have GE291 := n7_; have NB279_291 := n8_; have NB291_279 := n9_; have NB284_291 := n10_; have NB291_284 := n11_; clear n0_ n1_ n2_ n3_ n4_ n5_ n6_ n7_ n8_ n9_ n10_ n11_ hb hbox hg
           refine hK.out _ _ ⟨(blk_cell BK284.out 0).trans rfl, (blk_cell BK284.out 1).trans rfl, ((HB.out.cell (World.block_lt_of_cell? w _ hw289_0)).trans hw289_0), HS3_, HS4_⟩ (fun hHeld => ?_)
           clear hK K
           refine norm_ (a' := ?_) ?_ ?_
           rotate_left
           ·show Act.put _ (some 12) _ = _
            simp only [putW]; rfl
           refine one_ (i := 9) (N := none) (bits 10 1023) rfl rfl (one_of HT_.out (by kernel_rfl)) (by decide) (fun K hK => ?_)
           have hs27 : w26.cell? ⟨gb291, 0, none⟩ = some (.int .i64 0) := (blk_cell BK291.out 0).trans rfl
           have hfs27 := blk_frozen BK291.out 0; have hns27_0 := NB279_291.out; have hns27_1 := NB284_291.out; have hms27_0 := NB291_279.out; have hms27_1 := NB291_284.out
           have hs28 : w26.cell? ⟨gb291, 1, none⟩ = some (.int .i64 0) := (blk_cell BK291.out 1).trans rfl
           have hfs28 := blk_frozen BK291.out 1; have hns28_0 := NB279_291.out; have hns28_1 := NB284_291.out; have hms28_0 := NB291_279.out; have hms28_1 := NB291_284.out
           refine skip_ (w1 := ?_) (by rfl) rfl ?_ ?_
           rotate_left; (·go_simp; rfl)
           refine hK.out _ _ ⟨((cell_far (p := ⟨gb291, _, none⟩) NB284_291.out _).trans (((cell_far (p := ⟨gb291, _, none⟩) NB284_291.out _).trans (hHeld.1)))), ((cell_far (p := ⟨gb291, _, none⟩) NB284_291.out _).trans (((cell_far (p := ⟨gb291, _, none⟩) NB284_291.out _).trans (hHeld.2.1)))), ((cell_far (p := ⟨gb291, _, none⟩) (by first | exact Nat.ne_of_lt (Nat.lt_of_lt_of_le (by have := World.block_lt_of_cell? _ _ hw289_0; first | rwa [add_block] at this | exact this) GW291.out) | (rw [add_block]; exact Nat.ne_of_lt (Nat.lt_of_lt_of_le (by have := World.block_lt_of_cell? _ _ hw289_0; first | rwa [add_block] at this | exact this) GW291.out)) | (show (Addr.add _ _).block ≠ _; rw [add_block]; exact Nat.ne_of_lt (Nat.lt_of_lt_of_le (by have := World.block_lt_of_cell? _ _ hw289_0; first | rwa [add_block] at this | exact this) GW291.out)) | (dsimp only; exact Nat.ne_of_lt (Nat.lt_of_lt_of_le (by have := World.block_lt_of_cell? _ _ hw289_0; first | rwa [add_block] at this | exact this) GW291.out))) _).trans (((cell_far (p := ⟨gb291, _, none⟩) (by first | exact Nat.ne_of_lt (Nat.lt_of_lt_of_le (by have := World.block_lt_of_cell? _ _ hw289_0; first | rwa [add_block] at this | exact this) GW291.out) | (rw [add_block]; exact Nat.ne_of_lt (Nat.lt_of_lt_of_le (by have := World.block_lt_of_cell? _ _ hw289_0; first | rwa [add_block] at this | exact this) GW291.out)) | (show (Addr.add _ _).block ≠ _; rw [add_block]; exact Nat.ne_of_lt (Nat.lt_of_lt_of_le (by have := World.block_lt_of_cell? _ _ hw289_0; first | rwa [add_block] at this | exact this) GW291.out)) | (dsimp only; exact Nat.ne_of_lt (Nat.lt_of_lt_of_le (by have := World.block_lt_of_cell? _ _ hw289_0; first | rwa [add_block] at this | exact this) GW291.out))) _).trans (hHeld.2.2.1)))), ((cell_far (p := ⟨gb291, _, none⟩) (by first | exact Kd.own_blk (Kd.R_away HO_285001.out (fun _ hk => hk.2)) | (rw [add_block]; exact Kd.own_blk (Kd.R_away HO_285001.out (fun _ hk => hk.2))) | (show (Addr.add _ _).block ≠ _; rw [add_block]; exact Kd.own_blk (Kd.R_away HO_285001.out (fun _ hk => hk.2))) | (dsimp only; exact Kd.own_blk (Kd.R_away HO_285001.out (fun _ hk => hk.2)))) _).trans (((cell_far (p := ⟨gb291, _, none⟩) (by first | exact Kd.own_blk (Kd.R_away HO_285001.out (fun _ hk => hk.2)) | (rw [add_block]; exact Kd.own_blk (Kd.R_away HO_285001.out (fun _ hk => hk.2))) | (show (Addr.add _ _).block ≠ _; rw [add_block]; exact Kd.own_blk (Kd.R_away HO_285001.out (fun _ hk => hk.2))) | (dsimp only; exact Kd.own_blk (Kd.R_away HO_285001.out (fun _ hk => hk.2)))) _).trans (hHeld.2.2.2.1)))), ((cell_far (p := ⟨gb291, _, none⟩) (by first | exact Kd.own_blk (Kd.R_away HO_285001.out (fun _ hk => hk.2)) | (rw [add_block]; exact Kd.own_blk (Kd.R_away HO_285001.out (fun _ hk => hk.2))) | (show (Addr.add _ _).block ≠ _; rw [add_block]; exact Kd.own_blk (Kd.R_away HO_285001.out (fun _ hk => hk.2))) | (dsimp only; exact Kd.own_blk (Kd.R_away HO_285001.out (fun _ hk => hk.2)))) _).trans (((cell_far (p := ⟨gb291, _, none⟩) (by first | exact Kd.own_blk (Kd.R_away HO_285001.out (fun _ hk => hk.2)) | (rw [add_block]; exact Kd.own_blk (Kd.R_away HO_285001.out (fun _ hk => hk.2))) | (show (Addr.add _ _).block ≠ _; rw [add_block]; exact Kd.own_blk (Kd.R_away HO_285001.out (fun _ hk => hk.2))) | (dsimp only; exact Kd.own_blk (Kd.R_away HO_285001.out (fun _ hk => hk.2)))) _).trans (hHeld.2.2.2.2))))⟩ (fun hHeld => ?_)
           clear hK K
           refine done_ (done_of HT_.out (by kernel_rfl)) ?_
           go_upto_region 10 with (fail)
           go_cut [74] (fun v74 wc => ∃ (kq : Nat) (x74_23 : Bool), v74 = .bool x74_23 ∧ Aside0 (mapmakerref47_Pieces.j2 kq l1 (l0_2.length : Int) x10_1 x11_1 x74_23 t280 t281 ((rd_T92 t281 (rd l1 x11_1)).f0) ((rd_T92 t281 (rd l1 x11_1)).f1) = some (r1, r2)) ∧ Aside0 (kq ≤ kj13) ∧ Aside0 (Kd.R (Kd.int .i64) 3 wc w.heap.size (fun _ => True) u10 x10_1) ∧ Aside0 (Kd.R k92 92 wc w.heap.size (fun k_ => k_ ≠ gb291) (.slice (some ad290) t281.length co11) t281) ∧ Aside0 (wc.heap[gb279]? = some (.cells #[(.slice A0_0 l0_0.length c0_0), (.slice A0_1 l0_1.length c0_1), (.slice A0_2 l0_2.length c0_2)] 37 (0, 0))) ∧ Aside0 (wc.heap[gb284]? = some (.cells #[.int .i64 t280, (.slice (some ad290) t281.length co11)] 51 (0, 0))) ∧ Aside0 (wc.heap[gb291]? = some (.cells #[.int .i64 ((rd_T92 t281 (rd l1 x11_1)).f0), .int .i64 ((rd_T92 t281 (rd l1 x11_1)).f1)] 92 (0, 0))) ∧ Aside0 (Below w.heap.size w wc))
           case first =>
            have H := HC24.out; clear HC24
            by_cases c29 : x11_1 = 0
            ·rw [if_pos c29] at H
             have c29b0 : (x11_1 == 0) = true := beq_iff_eq.mpr c29
             have c29b1 : (x11_1 != 0) = false := bne_eq_false_iff_eq.mpr c29
             clear c29
             (first | rw [c29b0] | (simp only [i64_w, i32_w]; rw [c29b0]) | skip)
             by_cases c30 : ((rd_T92 t281 (rd l1 x11_1)).f0) < (l0_2.length : Int)
             ·rw [if_pos c30] at H
              have c30b0 : decide (((rd_T92 t281 (rd l1 x11_1)).f0) < (l0_2.length : Int)) = true := decide_eq_true c30
              clear c30
              have H' := Aside0.mk H
              clear H
              try go_wp2
              have n0_ : Aside0 (Kd.R (Kd.int .i64) 3 ((w26.setCell ⟨gb291, 0, none⟩ (.int .i64 ((rd_T92 t281 (rd l1 x11_1)).f0))).setCell ⟨gb291, 1, none⟩ (.int .i64 ((rd_T92 t281 (rd l1 x11_1)).f1))) w.heap.size (fun _ => True) u10 x10_1) := ⟨by (with_reducible repeat (first | apply Kd.R_alloc | apply Kd.R_drewN | apply Kd.R_drew)); exact Kd.R_mono (Kd.R_far (p := ⟨gb291, 1, none⟩) (Kd.R_far (p := ⟨gb291, 0, none⟩) (Kd.R_types HO_10.out BK291.out (by decide)) (fun _ hk => hk.2) (.int .i64 ((rd_T92 t281 (rd l1 x11_1)).f0))) (fun _ hk => hk.2) (.int .i64 ((rd_T92 t281 (rd l1 x11_1)).f1))) (fun _ hk => trivial)⟩
              have n1_ : Aside0 (Kd.R k92 92 ((w26.setCell ⟨gb291, 0, none⟩ (.int .i64 ((rd_T92 t281 (rd l1 x11_1)).f0))).setCell ⟨gb291, 1, none⟩ (.int .i64 ((rd_T92 t281 (rd l1 x11_1)).f1))) w.heap.size (fun k_ => k_ ≠ gb291) (.slice (some ad290) t281.length co11) t281) := ⟨by (with_reducible repeat (first | apply Kd.R_alloc | apply Kd.R_drewN | apply Kd.R_drew)); exact Kd.R_mono (Kd.R_far (p := ⟨gb291, 1, none⟩) (Kd.R_far (p := ⟨gb291, 0, none⟩) (Kd.R_mono HO_285001.out (fun k_ hk => (⟨hk, hk.2⟩ : _ ∧ k_ ≠ gb291))) (fun _ hk => hk.2) (.int .i64 ((rd_T92 t281 (rd l1 x11_1)).f0))) (fun _ hk => hk.2) (.int .i64 ((rd_T92 t281 (rd l1 x11_1)).f1))) (fun _ hk => hk.1.2)⟩
              have n2_ : Aside0 (((w26.setCell ⟨gb291, 0, none⟩ (.int .i64 ((rd_T92 t281 (rd l1 x11_1)).f0))).setCell ⟨gb291, 1, none⟩ (.int .i64 ((rd_T92 t281 (rd l1 x11_1)).f1))).heap[gb279]? = some (.cells #[.slice A0_0 l0_0.length c0_0, .slice A0_1 l0_1.length c0_1, .slice A0_2 l0_2.length c0_2] 37 (0, 0))) := ⟨by (with_reducible repeat (first | refine blk_drewN ?_ _ | refine blk_drew ?_ | refine blk_alloc ?_ _)); refine blk_far ?_ NB279_291.out _; (with_reducible repeat (first | refine blk_drewN ?_ _ | refine blk_drew ?_ | refine blk_alloc ?_ _)); refine blk_far ?_ NB279_291.out _; (with_reducible repeat (first | refine blk_drewN ?_ _ | refine blk_drew ?_ | refine blk_alloc ?_ _)); exact BK279.out⟩
              have n3_ : Aside0 (((w26.setCell ⟨gb291, 0, none⟩ (.int .i64 ((rd_T92 t281 (rd l1 x11_1)).f0))).setCell ⟨gb291, 1, none⟩ (.int .i64 ((rd_T92 t281 (rd l1 x11_1)).f1))).heap[gb284]? = some (.cells #[.int .i64 t280, .slice (some ad290) t281.length co11] 51 (0, 0))) := ⟨by (with_reducible repeat (first | refine blk_drewN ?_ _ | refine blk_drew ?_ | refine blk_alloc ?_ _)); refine blk_far ?_ NB284_291.out _; (with_reducible repeat (first | refine blk_drewN ?_ _ | refine blk_drew ?_ | refine blk_alloc ?_ _)); refine blk_far ?_ NB284_291.out _; (with_reducible repeat (first | refine blk_drewN ?_ _ | refine blk_drew ?_ | refine blk_alloc ?_ _)); exact BK284.out⟩
              have n4_ : Aside0 (((w26.setCell ⟨gb291, 0, none⟩ (.int .i64 ((rd_T92 t281 (rd l1 x11_1)).f0))).setCell ⟨gb291, 1, none⟩ (.int .i64 ((rd_T92 t281 (rd l1 x11_1)).f1))).heap[gb291]? = some (.cells #[.int .i64 ((rd_T92 t281 (rd l1 x11_1)).f0), .int .i64 ((rd_T92 t281 (rd l1 x11_1)).f1)] 92 (0, 0))) := ⟨by (with_reducible repeat (first | refine blk_drewN ?_ _ | refine blk_drew ?_ | refine blk_alloc ?_ _)); refine blk_put (cs := #[.int .i64 ((rd_T92 t281 (rd l1 x11_1)).f0), .int .i64 0]) ?_ 1 _ rfl; (with_reducible repeat (first | refine blk_drewN ?_ _ | refine blk_drew ?_ | refine blk_alloc ?_ _)); refine blk_put (cs := #[.int .i64 0, .int .i64 0]) ?_ 0 _ rfl; (with_reducible repeat (first | refine blk_drewN ?_ _ | refine blk_drew ?_ | refine blk_alloc ?_ _)); exact BK291.out⟩
              have n5_ : Aside0 (Below w.heap.size w ((w26.setCell ⟨gb291, 0, none⟩ (.int .i64 ((rd_T92 t281 (rd l1 x11_1)).f0))).setCell ⟨gb291, 1, none⟩ (.int .i64 ((rd_T92 t281 (rd l1 x11_1)).f1)))) := ⟨byB3 HB.out GE279.out GE284.out GE291.out⟩
              (try clear HO_10)
              (try clear HO_285001)
              (try clear BK279)
              (try clear BK284)
              (try clear BK291)
              (try clear HB)
              generalize ((w26.setCell ⟨gb291, 0, none⟩ (.int .i64 ((rd_T92 t281 (rd l1 x11_1)).f0))).setCell ⟨gb291, 1, none⟩ (.int .i64 ((rd_T92 t281 (rd l1 x11_1)).f1))) = w31 at n0_ n1_ n2_ n3_ n4_ n5_ ⊢
              have HO_10 := n0_; have HO_285001 := n1_; have BK279 := n2_; have BK284 := n3_; have BK291 := n4_; have HB := n5_; clear n0_ n1_ n2_ n3_ n4_ n5_; have n0_ := Aside0.mk (Kd.R_drew HO_10.out); have n1_ := Aside0.mk (Kd.R_drew HO_285001.out); have n2_ := Aside0.mk (blk_drew BK279.out); have n3_ := Aside0.mk (blk_drew BK284.out); have n4_ := Aside0.mk (blk_drew BK291.out); have n5_ := Aside0.mk (below_drew1 HB.out); clear HO_10 HO_285001 BK279 BK284 BK291 HB; have HO_10 := n0_; have HO_285001 := n1_; have BK279 := n2_; have BK284 := n3_; have BK291 := n4_; have HB := n5_; clear n0_ n1_ n2_ n3_ n4_ n5_
              refine start_ (n := 27) (S := fun w' => w'.cell? ⟨gb291, 0, none⟩ = some (.int .i64 ((rd_T92 t281 (rd l1 x11_1)).f0)) ∧ w'.cell? ⟨gb291, 1, none⟩ = some (.int .i64 ((rd_T92 t281 (rd l1 x11_1)).f1))) (ds := []) (bits 27 0) (by kernel_rfl) rfl rfl ⟨(blk_cell BK291.out 0).trans rfl, (blk_cell BK291.out 1).trans rfl⟩ (fun hHeld => ?_); refine with_tabW mapmakerref47_Pieces.tab10 mapmakerref47_Pieces.bits10 (fun HT_ HW_ => ?_)
              generalize w31.drew = w32 at HO_10 HO_285001 BK279 BK284 BK291 HB hHeld ⊢
              refine q_ 0 48 HT_ ?_; refine q_ 1 49 HT_ ?_; refine q_ 2 50 HT_ ?_; refine q_ 3 51 HT_ ?_; refine q_ 5 53 HT_ ?_; refine r2_ 4 52 HT_ HW_ hHeld ?_; refine q_ 6 54 HT_ ?_; refine q_ 7 55 HT_ ?_; refine q_ 8 56 HT_ ?_; refine qu_ 9 57 HT_ ?_; refine qu_ 10 58 HT_ ?_; refine qu_ 11 59 HT_ ?_; refine qu_ 12 60 HT_ ?_; refine qu_ 13 61 HT_ ?_; refine qu_ 14 62 HT_ ?_; refine qu_ 15 63 HT_ ?_; refine qu_ 16 64 HT_ ?_; refine qu_ 17 65 HT_ ?_; refine qu_ 18 66 HT_ ?_; refine qu_ 19 67 HT_ ?_; refine qu_ 20 68 HT_ ?_; refine qu_ 21 69 HT_ ?_; refine qu_ 22 70 HT_ ?_; refine qu_ 23 71 HT_ ?_; refine qu_ 24 72 HT_ ?_; refine qu_ 25 73 HT_ ?_; refine q_ 26 74 HT_ ?_
              refine done_ (done_of HT_.out (by kernel_rfl)) ?_
              try go_wp2
              go_meet
              case rel => exact ⟨_, (true), byF, H', ⟨by have := HK1.out; have := HJ13.out; first | omega | exact Nat.le_refl _⟩, ⟨by (with_reducible repeat (first | apply Kd.R_alloc | apply Kd.R_drewN | apply Kd.R_drew)); exact HO_10.out⟩, ⟨by (with_reducible repeat (first | apply Kd.R_alloc | apply Kd.R_drewN | apply Kd.R_drew)); exact HO_285001.out⟩, ⟨by (with_reducible repeat (first | refine blk_drewN ?_ _ | refine blk_drew ?_ | refine blk_alloc ?_ _)); exact BK279.out⟩, ⟨by (with_reducible repeat (first | refine blk_drewN ?_ _ | refine blk_drew ?_ | refine blk_alloc ?_ _)); exact BK284.out⟩, ⟨by (with_reducible repeat (first | refine blk_drewN ?_ _ | refine blk_drew ?_ | refine blk_alloc ?_ _)); exact BK291.out⟩, ⟨byB3 HB.out GE279.out GE284.out GE291.out⟩⟩
             ·rw [if_neg c30] at H
              have c30b0 : decide (((rd_T92 t281 (rd l1 x11_1)).f0) < (l0_2.length : Int)) = false := decide_eq_false c30
              clear c30
              by_cases c33 : x11_1 > 0
              ·rw [if_pos c33] at H
               have c33b0 : decide (0 < x11_1) = true := decide_eq_true c33
               clear c33
               obtain ⟨ji34, hji34⟩ : ∃ j_ : Int, (wrap64 (x11_1 - 1)) = j_ := ⟨_, rfl⟩
               replace H : (if 0 ≤ (ji34) then (if (ji34) < (l1.length : Int) then (if 0 ≤ (rd l1 (ji34)) then (if (rd l1 (ji34)) < (t281.length : Int) then (mapmakerref47_Pieces.j2 kj13 l1 (l0_2.length : Int) x10_1 x11_1 (((rd_T92 t281 (rd l1 x11_1)).f0) != ((rd_T92 t281 (rd l1 (ji34))).f1)) t280 t281 ((rd_T92 t281 (rd l1 x11_1)).f0) ((rd_T92 t281 (rd l1 x11_1)).f1)) else (none)) else (none)) else (none)) else (none)) = some (r1, r2) := by first | (rw [hji34] at H; exact H) | (simp only [hji34] at H ⊢; exact H)
               have hji34w : (IntKind.i64.wrap (x11_1 - 1)) = ji34 := (i64_w _).trans hji34
               by_cases c35 : 0 ≤ (ji34)
               ·rw [if_pos c35] at H
                have c35b0 : decide (0 ≤ (ji34)) = true := decide_eq_true c35
                clear c35
                by_cases c36 : (ji34) < (l1.length : Int)
                ·rw [if_pos c36] at H
                 have c36b0 : decide ((ji34) < (l1.length : Int)) = true := decide_eq_true c36
                 clear c36
                 by_cases c37 : 0 ≤ (rd l1 (ji34))
                 ·rw [if_pos c37] at H
                  have c37b0 : decide (0 ≤ (rd l1 (ji34))) = true := decide_eq_true c37
                  clear c37
                  by_cases c38 : (rd l1 (ji34)) < (t281.length : Int)
                  ·rw [if_pos c38] at H
                   have c38b0 : decide ((rd l1 (ji34)) < (t281.length : Int)) = true := decide_eq_true c38
                   clear c38
                   have H' := Aside0.mk H
                   clear H
                   try go_wp2
                   have n0_ : Aside0 (Kd.R (Kd.int .i64) 3 ((w26.setCell ⟨gb291, 0, none⟩ (.int .i64 ((rd_T92 t281 (rd l1 x11_1)).f0))).setCell ⟨gb291, 1, none⟩ (.int .i64 ((rd_T92 t281 (rd l1 x11_1)).f1))) w.heap.size (fun _ => True) u10 x10_1) := ⟨by (with_reducible repeat (first | apply Kd.R_alloc | apply Kd.R_drewN | apply Kd.R_drew)); exact Kd.R_mono (Kd.R_far (p := ⟨gb291, 1, none⟩) (Kd.R_far (p := ⟨gb291, 0, none⟩) (Kd.R_types HO_10.out BK291.out (by decide)) (fun _ hk => hk.2) (.int .i64 ((rd_T92 t281 (rd l1 x11_1)).f0))) (fun _ hk => hk.2) (.int .i64 ((rd_T92 t281 (rd l1 x11_1)).f1))) (fun _ hk => trivial)⟩
                   have n1_ : Aside0 (Kd.R k92 92 ((w26.setCell ⟨gb291, 0, none⟩ (.int .i64 ((rd_T92 t281 (rd l1 x11_1)).f0))).setCell ⟨gb291, 1, none⟩ (.int .i64 ((rd_T92 t281 (rd l1 x11_1)).f1))) w.heap.size (fun k_ => k_ ≠ gb291) (.slice (some ad290) t281.length co11) t281) := ⟨by (with_reducible repeat (first | apply Kd.R_alloc | apply Kd.R_drewN | apply Kd.R_drew)); exact Kd.R_mono (Kd.R_far (p := ⟨gb291, 1, none⟩) (Kd.R_far (p := ⟨gb291, 0, none⟩) (Kd.R_mono HO_285001.out (fun k_ hk => (⟨hk, hk.2⟩ : _ ∧ k_ ≠ gb291))) (fun _ hk => hk.2) (.int .i64 ((rd_T92 t281 (rd l1 x11_1)).f0))) (fun _ hk => hk.2) (.int .i64 ((rd_T92 t281 (rd l1 x11_1)).f1))) (fun _ hk => hk.1.2)⟩
                   have n2_ : Aside0 (((w26.setCell ⟨gb291, 0, none⟩ (.int .i64 ((rd_T92 t281 (rd l1 x11_1)).f0))).setCell ⟨gb291, 1, none⟩ (.int .i64 ((rd_T92 t281 (rd l1 x11_1)).f1))).heap[gb279]? = some (.cells #[.slice A0_0 l0_0.length c0_0, .slice A0_1 l0_1.length c0_1, .slice A0_2 l0_2.length c0_2] 37 (0, 0))) := ⟨by (with_reducible repeat (first | refine blk_drewN ?_ _ | refine blk_drew ?_ | refine blk_alloc ?_ _)); refine blk_far ?_ NB279_291.out _; (with_reducible repeat (first | refine blk_drewN ?_ _ | refine blk_drew ?_ | refine blk_alloc ?_ _)); refine blk_far ?_ NB279_291.out _; (with_reducible repeat (first | refine blk_drewN ?_ _ | refine blk_drew ?_ | refine blk_alloc ?_ _)); exact BK279.out⟩
                   have n3_ : Aside0 (((w26.setCell ⟨gb291, 0, none⟩ (.int .i64 ((rd_T92 t281 (rd l1 x11_1)).f0))).setCell ⟨gb291, 1, none⟩ (.int .i64 ((rd_T92 t281 (rd l1 x11_1)).f1))).heap[gb284]? = some (.cells #[.int .i64 t280, .slice (some ad290) t281.length co11] 51 (0, 0))) := ⟨by (with_reducible repeat (first | refine blk_drewN ?_ _ | refine blk_drew ?_ | refine blk_alloc ?_ _)); refine blk_far ?_ NB284_291.out _; (with_reducible repeat (first | refine blk_drewN ?_ _ | refine blk_drew ?_ | refine blk_alloc ?_ _)); refine blk_far ?_ NB284_291.out _; (with_reducible repeat (first | refine blk_drewN ?_ _ | refine blk_drew ?_ | refine blk_alloc ?_ _)); exact BK284.out⟩
                   have n4_ : Aside0 (((w26.setCell ⟨gb291, 0, none⟩ (.int .i64 ((rd_T92 t281 (rd l1 x11_1)).f0))).setCell ⟨gb291, 1, none⟩ (.int .i64 ((rd_T92 t281 (rd l1 x11_1)).f1))).heap[gb291]? = some (.cells #[.int .i64 ((rd_T92 t281 (rd l1 x11_1)).f0), .int .i64 ((rd_T92 t281 (rd l1 x11_1)).f1)] 92 (0, 0))) := ⟨by (with_reducible repeat (first | refine blk_drewN ?_ _ | refine blk_drew ?_ | refine blk_alloc ?_ _)); refine blk_put (cs := #[.int .i64 ((rd_T92 t281 (rd l1 x11_1)).f0), .int .i64 0]) ?_ 1 _ rfl; (with_reducible repeat (first | refine blk_drewN ?_ _ | refine blk_drew ?_ | refine blk_alloc ?_ _)); refine blk_put (cs := #[.int .i64 0, .int .i64 0]) ?_ 0 _ rfl; (with_reducible repeat (first | refine blk_drewN ?_ _ | refine blk_drew ?_ | refine blk_alloc ?_ _)); exact BK291.out⟩
                   have n5_ : Aside0 (Below w.heap.size w ((w26.setCell ⟨gb291, 0, none⟩ (.int .i64 ((rd_T92 t281 (rd l1 x11_1)).f0))).setCell ⟨gb291, 1, none⟩ (.int .i64 ((rd_T92 t281 (rd l1 x11_1)).f1)))) := ⟨byB3 HB.out GE279.out GE284.out GE291.out⟩
                   (try clear HO_10)
                   (try clear HO_285001)
                   (try clear BK279)
                   (try clear BK284)
                   (try clear BK291)
                   (try clear HB)
                   generalize ((w26.setCell ⟨gb291, 0, none⟩ (.int .i64 ((rd_T92 t281 (rd l1 x11_1)).f0))).setCell ⟨gb291, 1, none⟩ (.int .i64 ((rd_T92 t281 (rd l1 x11_1)).f1))) = w39 at n0_ n1_ n2_ n3_ n4_ n5_ ⊢
                   have HO_10 := n0_; have HO_285001 := n1_; have BK279 := n2_; have BK284 := n3_; have BK291 := n4_; have HB := n5_; clear n0_ n1_ n2_ n3_ n4_ n5_; have n0_ := Aside0.mk (Kd.R_drew HO_10.out); have n1_ := Aside0.mk (Kd.R_drew HO_285001.out); have n2_ := Aside0.mk (blk_drew BK279.out); have n3_ := Aside0.mk (blk_drew BK284.out); have n4_ := Aside0.mk (blk_drew BK291.out); have n5_ := Aside0.mk (below_drew1 HB.out); clear HO_10 HO_285001 BK279 BK284 BK291 HB; have HO_10 := n0_; have HO_285001 := n1_; have BK279 := n2_; have BK284 := n3_; have BK291 := n4_; have HB := n5_; clear n0_ n1_ n2_ n3_ n4_ n5_
                   have p292 : 0 ≤ ((ji34) : Int) := odt
                   have q292 : (ji34) < (l1.length : Int) := odt
                   obtain ⟨ad292, e292, hx292_0⟩ := Kd.at_int HR1.out (ji34) p292 q292
                   have hw292_0 := hx292_0
                   obtain rfl : ad289 = ad292 := (by injection e292)
                   replace hx292_0 := (HB.out.cell (World.block_lt_of_cell? w _ hx292_0)).trans hx292_0
                   replace p292 := eq_true p292; replace q292 := eq_true q292
                   have p293 : 0 ≤ ((rd l1 (ji34)) : Int) := odt
                   have q293 : (rd l1 (ji34)) < (t281.length : Int) := odt
                   obtain ⟨ad293, e293, hx293_0, hx293_1⟩ := at_T92 (Kd.R_reads' HO_285001.out).2.2 (rd l1 (ji34)) p293 q293
                   obtain rfl : ad290 = ad293 := (by injection e293)
                   replace p293 := eq_true p293; replace q293 := eq_true q293
                   refine start_ (n := 27) (S := fun w' => w'.cell? ⟨gb291, 0, none⟩ = some (.int .i64 ((rd_T92 t281 (rd l1 x11_1)).f0)) ∧ w'.cell? ⟨gb291, 1, none⟩ = some (.int .i64 ((rd_T92 t281 (rd l1 x11_1)).f1)) ∧ w'.cell? ⟨gb284, 0, none⟩ = some (.int .i64 t280) ∧ w'.cell? ⟨gb284, 1, none⟩ = some (.slice (some ad290) t281.length co11) ∧ w'.cell? (ad289.add ((ji34)).toNat) = some (.int .i64 (rd l1 (ji34))) ∧ w'.cell? (ad290.add (((rd l1 (ji34))).toNat * 2)) = some (.int .i64 ((rd_T92 t281 (rd l1 (ji34))).f0)) ∧ w'.cell? ⟨(ad290.add (((rd l1 (ji34))).toNat * 2)).block, (ad290.add (((rd l1 (ji34))).toNat * 2)).off + 1, none⟩ = some (.int .i64 ((rd_T92 t281 (rd l1 (ji34))).f1))) (ds := []) (bits 27 0) (by kernel_rfl) rfl rfl ⟨(blk_cell BK291.out 0).trans rfl, (blk_cell BK291.out 1).trans rfl, (blk_cell BK284.out 0).trans rfl, (blk_cell BK284.out 1).trans rfl, ((HB.out.cell (World.block_lt_of_cell? w _ hw292_0)).trans hw292_0), hx293_0, hx293_1⟩ (fun hHeld => ?_); refine with_tabW mapmakerref47_Pieces.tab10 mapmakerref47_Pieces.bits10 (fun HT_ HW_ => ?_)
                   generalize w39.drew = w40 at HO_10 HO_285001 BK279 BK284 BK291 HB hx292_0 hx293_0 hx293_1 hHeld ⊢
                   refine q_ 0 48 HT_ ?_; refine q_ 1 49 HT_ ?_; refine q_ 2 50 HT_ ?_; refine q_ 3 51 HT_ ?_; refine q_ 5 53 HT_ ?_; refine r7_ 4 52 HT_ HW_ hHeld ?_; refine q_ 6 54 HT_ ?_; refine q_ 7 55 HT_ ?_; refine q_ 8 56 HT_ ?_; refine q_ 9 57 HT_ ?_; refine q_ 10 58 HT_ ?_; refine q_ 11 59 HT_ ?_; refine q_ 12 60 HT_ ?_; refine q_ 14 62 HT_ ?_; refine q_ 16 64 HT_ ?_; refine q_ 17 65 HT_ ?_; refine q_ 18 66 HT_ ?_; refine q_ 19 67 HT_ ?_; refine r7_ 13 61 HT_ HW_ hHeld ?_; refine r7_ 15 63 HT_ HW_ hHeld ?_; refine r7_ 20 68 HT_ HW_ hHeld ?_; refine q_ 21 69 HT_ ?_; refine q_ 22 70 HT_ ?_; refine r7_ 23 71 HT_ HW_ hHeld ?_; refine q_ 24 72 HT_ ?_; refine q_ 25 73 HT_ ?_; refine q_ 26 74 HT_ ?_
                   refine done_ (done_of HT_.out (by kernel_rfl)) ?_
                   try go_wp2
                   go_meet
                   case rel => exact ⟨_, ((((rd_T92 t281 (rd l1 x11_1)).f0) != ((rd_T92 t281 (rd l1 (ji34))).f1))), (by first | rfl | (simp; done) | (simp only [← hji34] <;> (first | rfl | simp)) | (simp [*]; done)), H', ⟨by have := HK1.out; have := HJ13.out; first | omega | exact Nat.le_refl _⟩, ⟨by (with_reducible repeat (first | apply Kd.R_alloc | apply Kd.R_drewN | apply Kd.R_drew)); exact HO_10.out⟩, ⟨by (with_reducible repeat (first | apply Kd.R_alloc | apply Kd.R_drewN | apply Kd.R_drew)); exact HO_285001.out⟩, ⟨by (with_reducible repeat (first | refine blk_drewN ?_ _ | refine blk_drew ?_ | refine blk_alloc ?_ _)); exact BK279.out⟩, ⟨by (with_reducible repeat (first | refine blk_drewN ?_ _ | refine blk_drew ?_ | refine blk_alloc ?_ _)); exact BK284.out⟩, ⟨by (with_reducible repeat (first | refine blk_drewN ?_ _ | refine blk_drew ?_ | refine blk_alloc ?_ _)); exact BK291.out⟩, ⟨byB3 HB.out GE279.out GE284.out GE291.out⟩⟩
                  ·rw [if_neg c38] at H
                   exact absurd H (by simp)
                 ·rw [if_neg c37] at H
                  exact absurd H (by simp)
                ·rw [if_neg c36] at H
                 exact absurd H (by simp)
               ·rw [if_neg c35] at H
                exact absurd H (by simp)
              ·rw [if_neg c33] at H
               have c33b0 : decide (0 < x11_1) = false := decide_eq_false c33
               clear c33
               have H' := Aside0.mk H
               clear H
               try go_wp2
               have n0_ : Aside0 (Kd.R (Kd.int .i64) 3 ((w26.setCell ⟨gb291, 0, none⟩ (.int .i64 ((rd_T92 t281 (rd l1 x11_1)).f0))).setCell ⟨gb291, 1, none⟩ (.int .i64 ((rd_T92 t281 (rd l1 x11_1)).f1))) w.heap.size (fun _ => True) u10 x10_1) := ⟨by (with_reducible repeat (first | apply Kd.R_alloc | apply Kd.R_drewN | apply Kd.R_drew)); exact Kd.R_mono (Kd.R_far (p := ⟨gb291, 1, none⟩) (Kd.R_far (p := ⟨gb291, 0, none⟩) (Kd.R_types HO_10.out BK291.out (by decide)) (fun _ hk => hk.2) (.int .i64 ((rd_T92 t281 (rd l1 x11_1)).f0))) (fun _ hk => hk.2) (.int .i64 ((rd_T92 t281 (rd l1 x11_1)).f1))) (fun _ hk => trivial)⟩
               have n1_ : Aside0 (Kd.R k92 92 ((w26.setCell ⟨gb291, 0, none⟩ (.int .i64 ((rd_T92 t281 (rd l1 x11_1)).f0))).setCell ⟨gb291, 1, none⟩ (.int .i64 ((rd_T92 t281 (rd l1 x11_1)).f1))) w.heap.size (fun k_ => k_ ≠ gb291) (.slice (some ad290) t281.length co11) t281) := ⟨by (with_reducible repeat (first | apply Kd.R_alloc | apply Kd.R_drewN | apply Kd.R_drew)); exact Kd.R_mono (Kd.R_far (p := ⟨gb291, 1, none⟩) (Kd.R_far (p := ⟨gb291, 0, none⟩) (Kd.R_mono HO_285001.out (fun k_ hk => (⟨hk, hk.2⟩ : _ ∧ k_ ≠ gb291))) (fun _ hk => hk.2) (.int .i64 ((rd_T92 t281 (rd l1 x11_1)).f0))) (fun _ hk => hk.2) (.int .i64 ((rd_T92 t281 (rd l1 x11_1)).f1))) (fun _ hk => hk.1.2)⟩
               have n2_ : Aside0 (((w26.setCell ⟨gb291, 0, none⟩ (.int .i64 ((rd_T92 t281 (rd l1 x11_1)).f0))).setCell ⟨gb291, 1, none⟩ (.int .i64 ((rd_T92 t281 (rd l1 x11_1)).f1))).heap[gb279]? = some (.cells #[.slice A0_0 l0_0.length c0_0, .slice A0_1 l0_1.length c0_1, .slice A0_2 l0_2.length c0_2] 37 (0, 0))) := ⟨by (with_reducible repeat (first | refine blk_drewN ?_ _ | refine blk_drew ?_ | refine blk_alloc ?_ _)); refine blk_far ?_ NB279_291.out _; (with_reducible repeat (first | refine blk_drewN ?_ _ | refine blk_drew ?_ | refine blk_alloc ?_ _)); refine blk_far ?_ NB279_291.out _; (with_reducible repeat (first | refine blk_drewN ?_ _ | refine blk_drew ?_ | refine blk_alloc ?_ _)); exact BK279.out⟩
               have n3_ : Aside0 (((w26.setCell ⟨gb291, 0, none⟩ (.int .i64 ((rd_T92 t281 (rd l1 x11_1)).f0))).setCell ⟨gb291, 1, none⟩ (.int .i64 ((rd_T92 t281 (rd l1 x11_1)).f1))).heap[gb284]? = some (.cells #[.int .i64 t280, .slice (some ad290) t281.length co11] 51 (0, 0))) := ⟨by (with_reducible repeat (first | refine blk_drewN ?_ _ | refine blk_drew ?_ | refine blk_alloc ?_ _)); refine blk_far ?_ NB284_291.out _; (with_reducible repeat (first | refine blk_drewN ?_ _ | refine blk_drew ?_ | refine blk_alloc ?_ _)); refine blk_far ?_ NB284_291.out _; (with_reducible repeat (first | refine blk_drewN ?_ _ | refine blk_drew ?_ | refine blk_alloc ?_ _)); exact BK284.out⟩
               have n4_ : Aside0 (((w26.setCell ⟨gb291, 0, none⟩ (.int .i64 ((rd_T92 t281 (rd l1 x11_1)).f0))).setCell ⟨gb291, 1, none⟩ (.int .i64 ((rd_T92 t281 (rd l1 x11_1)).f1))).heap[gb291]? = some (.cells #[.int .i64 ((rd_T92 t281 (rd l1 x11_1)).f0), .int .i64 ((rd_T92 t281 (rd l1 x11_1)).f1)] 92 (0, 0))) := ⟨by (with_reducible repeat (first | refine blk_drewN ?_ _ | refine blk_drew ?_ | refine blk_alloc ?_ _)); refine blk_put (cs := #[.int .i64 ((rd_T92 t281 (rd l1 x11_1)).f0), .int .i64 0]) ?_ 1 _ rfl; (with_reducible repeat (first | refine blk_drewN ?_ _ | refine blk_drew ?_ | refine blk_alloc ?_ _)); refine blk_put (cs := #[.int .i64 0, .int .i64 0]) ?_ 0 _ rfl; (with_reducible repeat (first | refine blk_drewN ?_ _ | refine blk_drew ?_ | refine blk_alloc ?_ _)); exact BK291.out⟩
               have n5_ : Aside0 (Below w.heap.size w ((w26.setCell ⟨gb291, 0, none⟩ (.int .i64 ((rd_T92 t281 (rd l1 x11_1)).f0))).setCell ⟨gb291, 1, none⟩ (.int .i64 ((rd_T92 t281 (rd l1 x11_1)).f1)))) := ⟨byB3 HB.out GE279.out GE284.out GE291.out⟩
               (try clear HO_10)
               (try clear HO_285001)
               (try clear BK279)
               (try clear BK284)
               (try clear BK291)
               (try clear HB)
               generalize ((w26.setCell ⟨gb291, 0, none⟩ (.int .i64 ((rd_T92 t281 (rd l1 x11_1)).f0))).setCell ⟨gb291, 1, none⟩ (.int .i64 ((rd_T92 t281 (rd l1 x11_1)).f1))) = w41 at n0_ n1_ n2_ n3_ n4_ n5_ ⊢
               have HO_10 := n0_; have HO_285001 := n1_; have BK279 := n2_; have BK284 := n3_; have BK291 := n4_; have HB := n5_; clear n0_ n1_ n2_ n3_ n4_ n5_; have n0_ := Aside0.mk (Kd.R_drew HO_10.out); have n1_ := Aside0.mk (Kd.R_drew HO_285001.out); have n2_ := Aside0.mk (blk_drew BK279.out); have n3_ := Aside0.mk (blk_drew BK284.out); have n4_ := Aside0.mk (blk_drew BK291.out); have n5_ := Aside0.mk (below_drew1 HB.out); clear HO_10 HO_285001 BK279 BK284 BK291 HB; have HO_10 := n0_; have HO_285001 := n1_; have BK279 := n2_; have BK284 := n3_; have BK291 := n4_; have HB := n5_; clear n0_ n1_ n2_ n3_ n4_ n5_
               refine start_ (n := 27) (S := fun w' => w'.cell? ⟨gb291, 0, none⟩ = some (.int .i64 ((rd_T92 t281 (rd l1 x11_1)).f0)) ∧ w'.cell? ⟨gb291, 1, none⟩ = some (.int .i64 ((rd_T92 t281 (rd l1 x11_1)).f1))) (ds := []) (bits 27 0) (by kernel_rfl) rfl rfl ⟨(blk_cell BK291.out 0).trans rfl, (blk_cell BK291.out 1).trans rfl⟩ (fun hHeld => ?_); refine with_tabW mapmakerref47_Pieces.tab10 mapmakerref47_Pieces.bits10 (fun HT_ HW_ => ?_)
               generalize w41.drew = w42 at HO_10 HO_285001 BK279 BK284 BK291 HB hHeld ⊢
               refine q_ 0 48 HT_ ?_; refine q_ 1 49 HT_ ?_; refine q_ 2 50 HT_ ?_; refine q_ 3 51 HT_ ?_; refine q_ 5 53 HT_ ?_; refine r2_ 4 52 HT_ HW_ hHeld ?_; refine q_ 6 54 HT_ ?_; refine q_ 7 55 HT_ ?_; refine q_ 8 56 HT_ ?_; refine q_ 9 57 HT_ ?_; refine q_ 10 58 HT_ ?_; refine q_ 11 59 HT_ ?_; refine qu_ 12 60 HT_ ?_; refine qu_ 13 61 HT_ ?_; refine qu_ 14 62 HT_ ?_; refine qu_ 15 63 HT_ ?_; refine qu_ 16 64 HT_ ?_; refine qu_ 17 65 HT_ ?_; refine qu_ 18 66 HT_ ?_; refine qu_ 19 67 HT_ ?_; refine qu_ 20 68 HT_ ?_; refine qu_ 21 69 HT_ ?_; refine qu_ 22 70 HT_ ?_; refine qu_ 23 71 HT_ ?_; refine qu_ 24 72 HT_ ?_; refine q_ 25 73 HT_ ?_; refine q_ 26 74 HT_ ?_
               refine done_ (done_of HT_.out (by kernel_rfl)) ?_
               try go_wp2
               go_meet
               case rel => exact ⟨_, (false), byF, H', ⟨by have := HK1.out; have := HJ13.out; first | omega | exact Nat.le_refl _⟩, ⟨by (with_reducible repeat (first | apply Kd.R_alloc | apply Kd.R_drewN | apply Kd.R_drew)); exact HO_10.out⟩, ⟨by (with_reducible repeat (first | apply Kd.R_alloc | apply Kd.R_drewN | apply Kd.R_drew)); exact HO_285001.out⟩, ⟨by (with_reducible repeat (first | refine blk_drewN ?_ _ | refine blk_drew ?_ | refine blk_alloc ?_ _)); exact BK279.out⟩, ⟨by (with_reducible repeat (first | refine blk_drewN ?_ _ | refine blk_drew ?_ | refine blk_alloc ?_ _)); exact BK284.out⟩, ⟨by (with_reducible repeat (first | refine blk_drewN ?_ _ | refine blk_drew ?_ | refine blk_alloc ?_ _)); exact BK291.out⟩, ⟨byB3 HB.out GE279.out GE284.out GE291.out⟩⟩
            ·rw [if_neg c29] at H
             have c29b0 : (x11_1 == 0) = false := beq_eq_false_iff_ne.mpr c29
             have c29b1 : (x11_1 != 0) = true := bne_iff_ne.mpr c29
             (first | rw [c29b0] | (simp only [i64_w, i32_w]; rw [c29b0]) | skip)
             by_cases c43 : x11_1 > 0
             ·rw [if_pos c43] at H
              have c43b0 : decide (0 < x11_1) = true := decide_eq_true c43
              clear c43
              obtain ⟨ji44, hji44⟩ : ∃ j_ : Int, (wrap64 (x11_1 - 1)) = j_ := ⟨_, rfl⟩
              replace H : (if 0 ≤ (ji44) then (if (ji44) < (l1.length : Int) then (if 0 ≤ (rd l1 (ji44)) then (if (rd l1 (ji44)) < (t281.length : Int) then (mapmakerref47_Pieces.j2 kj13 l1 (l0_2.length : Int) x10_1 x11_1 (((rd_T92 t281 (rd l1 x11_1)).f0) != ((rd_T92 t281 (rd l1 (ji44))).f1)) t280 t281 ((rd_T92 t281 (rd l1 x11_1)).f0) ((rd_T92 t281 (rd l1 x11_1)).f1)) else (none)) else (none)) else (none)) else (none)) = some (r1, r2) := by first | (rw [hji44] at H; exact H) | (simp only [hji44] at H ⊢; exact H)
              have hji44w : (IntKind.i64.wrap (x11_1 - 1)) = ji44 := (i64_w _).trans hji44
              by_cases c45 : 0 ≤ (ji44)
              ·rw [if_pos c45] at H
               have c45b0 : decide (0 ≤ (ji44)) = true := decide_eq_true c45
               clear c45
               by_cases c46 : (ji44) < (l1.length : Int)
               ·rw [if_pos c46] at H
                have c46b0 : decide ((ji44) < (l1.length : Int)) = true := decide_eq_true c46
                clear c46
                by_cases c47 : 0 ≤ (rd l1 (ji44))
                ·rw [if_pos c47] at H
                 have c47b0 : decide (0 ≤ (rd l1 (ji44))) = true := decide_eq_true c47
                 clear c47
                 by_cases c48 : (rd l1 (ji44)) < (t281.length : Int)
                 ·rw [if_pos c48] at H
                  have c48b0 : decide ((rd l1 (ji44)) < (t281.length : Int)) = true := decide_eq_true c48
                  clear c48
                  have H' := Aside0.mk H
                  clear H
                  try go_wp2
                  have n0_ : Aside0 (Kd.R (Kd.int .i64) 3 ((w26.setCell ⟨gb291, 0, none⟩ (.int .i64 ((rd_T92 t281 (rd l1 x11_1)).f0))).setCell ⟨gb291, 1, none⟩ (.int .i64 ((rd_T92 t281 (rd l1 x11_1)).f1))) w.heap.size (fun _ => True) u10 x10_1) := ⟨by (with_reducible repeat (first | apply Kd.R_alloc | apply Kd.R_drewN | apply Kd.R_drew)); exact Kd.R_mono (Kd.R_far (p := ⟨gb291, 1, none⟩) (Kd.R_far (p := ⟨gb291, 0, none⟩) (Kd.R_types HO_10.out BK291.out (by decide)) (fun _ hk => hk.2) (.int .i64 ((rd_T92 t281 (rd l1 x11_1)).f0))) (fun _ hk => hk.2) (.int .i64 ((rd_T92 t281 (rd l1 x11_1)).f1))) (fun _ hk => trivial)⟩
                  have n1_ : Aside0 (Kd.R k92 92 ((w26.setCell ⟨gb291, 0, none⟩ (.int .i64 ((rd_T92 t281 (rd l1 x11_1)).f0))).setCell ⟨gb291, 1, none⟩ (.int .i64 ((rd_T92 t281 (rd l1 x11_1)).f1))) w.heap.size (fun k_ => k_ ≠ gb291) (.slice (some ad290) t281.length co11) t281) := ⟨by (with_reducible repeat (first | apply Kd.R_alloc | apply Kd.R_drewN | apply Kd.R_drew)); exact Kd.R_mono (Kd.R_far (p := ⟨gb291, 1, none⟩) (Kd.R_far (p := ⟨gb291, 0, none⟩) (Kd.R_mono HO_285001.out (fun k_ hk => (⟨hk, hk.2⟩ : _ ∧ k_ ≠ gb291))) (fun _ hk => hk.2) (.int .i64 ((rd_T92 t281 (rd l1 x11_1)).f0))) (fun _ hk => hk.2) (.int .i64 ((rd_T92 t281 (rd l1 x11_1)).f1))) (fun _ hk => hk.1.2)⟩
                  have n2_ : Aside0 (((w26.setCell ⟨gb291, 0, none⟩ (.int .i64 ((rd_T92 t281 (rd l1 x11_1)).f0))).setCell ⟨gb291, 1, none⟩ (.int .i64 ((rd_T92 t281 (rd l1 x11_1)).f1))).heap[gb279]? = some (.cells #[.slice A0_0 l0_0.length c0_0, .slice A0_1 l0_1.length c0_1, .slice A0_2 l0_2.length c0_2] 37 (0, 0))) := ⟨by (with_reducible repeat (first | refine blk_drewN ?_ _ | refine blk_drew ?_ | refine blk_alloc ?_ _)); refine blk_far ?_ NB279_291.out _; (with_reducible repeat (first | refine blk_drewN ?_ _ | refine blk_drew ?_ | refine blk_alloc ?_ _)); refine blk_far ?_ NB279_291.out _; (with_reducible repeat (first | refine blk_drewN ?_ _ | refine blk_drew ?_ | refine blk_alloc ?_ _)); exact BK279.out⟩
                  have n3_ : Aside0 (((w26.setCell ⟨gb291, 0, none⟩ (.int .i64 ((rd_T92 t281 (rd l1 x11_1)).f0))).setCell ⟨gb291, 1, none⟩ (.int .i64 ((rd_T92 t281 (rd l1 x11_1)).f1))).heap[gb284]? = some (.cells #[.int .i64 t280, .slice (some ad290) t281.length co11] 51 (0, 0))) := ⟨by (with_reducible repeat (first | refine blk_drewN ?_ _ | refine blk_drew ?_ | refine blk_alloc ?_ _)); refine blk_far ?_ NB284_291.out _; (with_reducible repeat (first | refine blk_drewN ?_ _ | refine blk_drew ?_ | refine blk_alloc ?_ _)); refine blk_far ?_ NB284_291.out _; (with_reducible repeat (first | refine blk_drewN ?_ _ | refine blk_drew ?_ | refine blk_alloc ?_ _)); exact BK284.out⟩
                  have n4_ : Aside0 (((w26.setCell ⟨gb291, 0, none⟩ (.int .i64 ((rd_T92 t281 (rd l1 x11_1)).f0))).setCell ⟨gb291, 1, none⟩ (.int .i64 ((rd_T92 t281 (rd l1 x11_1)).f1))).heap[gb291]? = some (.cells #[.int .i64 ((rd_T92 t281 (rd l1 x11_1)).f0), .int .i64 ((rd_T92 t281 (rd l1 x11_1)).f1)] 92 (0, 0))) := ⟨by (with_reducible repeat (first | refine blk_drewN ?_ _ | refine blk_drew ?_ | refine blk_alloc ?_ _)); refine blk_put (cs := #[.int .i64 ((rd_T92 t281 (rd l1 x11_1)).f0), .int .i64 0]) ?_ 1 _ rfl; (with_reducible repeat (first | refine blk_drewN ?_ _ | refine blk_drew ?_ | refine blk_alloc ?_ _)); refine blk_put (cs := #[.int .i64 0, .int .i64 0]) ?_ 0 _ rfl; (with_reducible repeat (first | refine blk_drewN ?_ _ | refine blk_drew ?_ | refine blk_alloc ?_ _)); exact BK291.out⟩
                  have n5_ : Aside0 (Below w.heap.size w ((w26.setCell ⟨gb291, 0, none⟩ (.int .i64 ((rd_T92 t281 (rd l1 x11_1)).f0))).setCell ⟨gb291, 1, none⟩ (.int .i64 ((rd_T92 t281 (rd l1 x11_1)).f1)))) := ⟨byB3 HB.out GE279.out GE284.out GE291.out⟩
                  (try clear HO_10)
                  (try clear HO_285001)
                  (try clear BK279)
                  (try clear BK284)
                  (try clear BK291)
                  (try clear HB)
                  generalize ((w26.setCell ⟨gb291, 0, none⟩ (.int .i64 ((rd_T92 t281 (rd l1 x11_1)).f0))).setCell ⟨gb291, 1, none⟩ (.int .i64 ((rd_T92 t281 (rd l1 x11_1)).f1))) = w49 at n0_ n1_ n2_ n3_ n4_ n5_ ⊢
                  have HO_10 := n0_; have HO_285001 := n1_; have BK279 := n2_; have BK284 := n3_; have BK291 := n4_; have HB := n5_; clear n0_ n1_ n2_ n3_ n4_ n5_; have n0_ := Aside0.mk (Kd.R_drew HO_10.out); have n1_ := Aside0.mk (Kd.R_drew HO_285001.out); have n2_ := Aside0.mk (blk_drew BK279.out); have n3_ := Aside0.mk (blk_drew BK284.out); have n4_ := Aside0.mk (blk_drew BK291.out); have n5_ := Aside0.mk (below_drew1 HB.out); clear HO_10 HO_285001 BK279 BK284 BK291 HB; have HO_10 := n0_; have HO_285001 := n1_; have BK279 := n2_; have BK284 := n3_; have BK291 := n4_; have HB := n5_; clear n0_ n1_ n2_ n3_ n4_ n5_
                  have p294 : 0 ≤ ((ji44) : Int) := odt
                  have q294 : (ji44) < (l1.length : Int) := odt
                  obtain ⟨ad294, e294, hx294_0⟩ := Kd.at_int HR1.out (ji44) p294 q294
                  have hw294_0 := hx294_0
                  obtain rfl : ad289 = ad294 := (by injection e294)
                  replace hx294_0 := (HB.out.cell (World.block_lt_of_cell? w _ hx294_0)).trans hx294_0
                  replace p294 := eq_true p294; replace q294 := eq_true q294
                  have p295 : 0 ≤ ((rd l1 (ji44)) : Int) := odt
                  have q295 : (rd l1 (ji44)) < (t281.length : Int) := odt
                  obtain ⟨ad295, e295, hx295_0, hx295_1⟩ := at_T92 (Kd.R_reads' HO_285001.out).2.2 (rd l1 (ji44)) p295 q295
                  obtain rfl : ad290 = ad295 := (by injection e295)
                  replace p295 := eq_true p295; replace q295 := eq_true q295
                  refine start_ (n := 27) (S := fun w' => w'.cell? ⟨gb291, 0, none⟩ = some (.int .i64 ((rd_T92 t281 (rd l1 x11_1)).f0)) ∧ w'.cell? ⟨gb291, 1, none⟩ = some (.int .i64 ((rd_T92 t281 (rd l1 x11_1)).f1)) ∧ w'.cell? ⟨gb284, 0, none⟩ = some (.int .i64 t280) ∧ w'.cell? ⟨gb284, 1, none⟩ = some (.slice (some ad290) t281.length co11) ∧ w'.cell? (ad289.add ((ji44)).toNat) = some (.int .i64 (rd l1 (ji44))) ∧ w'.cell? (ad290.add (((rd l1 (ji44))).toNat * 2)) = some (.int .i64 ((rd_T92 t281 (rd l1 (ji44))).f0)) ∧ w'.cell? ⟨(ad290.add (((rd l1 (ji44))).toNat * 2)).block, (ad290.add (((rd l1 (ji44))).toNat * 2)).off + 1, none⟩ = some (.int .i64 ((rd_T92 t281 (rd l1 (ji44))).f1))) (ds := []) (bits 27 0) (by kernel_rfl) rfl rfl ⟨(blk_cell BK291.out 0).trans rfl, (blk_cell BK291.out 1).trans rfl, (blk_cell BK284.out 0).trans rfl, (blk_cell BK284.out 1).trans rfl, ((HB.out.cell (World.block_lt_of_cell? w _ hw294_0)).trans hw294_0), hx295_0, hx295_1⟩ (fun hHeld => ?_); refine with_tabW mapmakerref47_Pieces.tab10 mapmakerref47_Pieces.bits10 (fun HT_ HW_ => ?_)
                  generalize w49.drew = w50 at HO_10 HO_285001 BK279 BK284 BK291 HB hx294_0 hx295_0 hx295_1 hHeld ⊢
                  refine q_ 0 48 HT_ ?_; refine q_ 1 49 HT_ ?_; refine q_ 2 50 HT_ ?_; refine qu_ 3 51 HT_ ?_; refine qu_ 4 52 HT_ ?_; refine qu_ 5 53 HT_ ?_; refine qu_ 6 54 HT_ ?_; refine q_ 7 55 HT_ ?_; refine q_ 8 56 HT_ ?_; refine q_ 9 57 HT_ ?_; refine q_ 10 58 HT_ ?_; refine q_ 11 59 HT_ ?_; refine q_ 12 60 HT_ ?_; refine q_ 14 62 HT_ ?_; refine q_ 16 64 HT_ ?_; refine q_ 17 65 HT_ ?_; refine q_ 18 66 HT_ ?_; refine q_ 19 67 HT_ ?_; refine r7_ 13 61 HT_ HW_ hHeld ?_; refine r7_ 15 63 HT_ HW_ hHeld ?_; refine r7_ 20 68 HT_ HW_ hHeld ?_; refine q_ 21 69 HT_ ?_; refine q_ 22 70 HT_ ?_; refine r7_ 23 71 HT_ HW_ hHeld ?_; refine q_ 24 72 HT_ ?_; refine q_ 25 73 HT_ ?_; refine q_ 26 74 HT_ ?_
                  refine done_ (done_of HT_.out (by kernel_rfl)) ?_
                  try go_wp2
                  go_meet
                  case rel => exact ⟨_, ((((rd_T92 t281 (rd l1 x11_1)).f0) != ((rd_T92 t281 (rd l1 (ji44))).f1))), (by first | rfl | (simp; done) | (simp only [← hji44] <;> (first | rfl | simp)) | (simp [*]; done)), H', ⟨by have := HK1.out; have := HJ13.out; first | omega | exact Nat.le_refl _⟩, ⟨by (with_reducible repeat (first | apply Kd.R_alloc | apply Kd.R_drewN | apply Kd.R_drew)); exact HO_10.out⟩, ⟨by (with_reducible repeat (first | apply Kd.R_alloc | apply Kd.R_drewN | apply Kd.R_drew)); exact HO_285001.out⟩, ⟨by (with_reducible repeat (first | refine blk_drewN ?_ _ | refine blk_drew ?_ | refine blk_alloc ?_ _)); exact BK279.out⟩, ⟨by (with_reducible repeat (first | refine blk_drewN ?_ _ | refine blk_drew ?_ | refine blk_alloc ?_ _)); exact BK284.out⟩, ⟨by (with_reducible repeat (first | refine blk_drewN ?_ _ | refine blk_drew ?_ | refine blk_alloc ?_ _)); exact BK291.out⟩, ⟨byB3 HB.out GE279.out GE284.out GE291.out⟩⟩
                 ·rw [if_neg c48] at H
                  exact absurd H (by simp)
                ·rw [if_neg c47] at H
                 exact absurd H (by simp)
               ·rw [if_neg c46] at H
                exact absurd H (by simp)
              ·rw [if_neg c45] at H
               exact absurd H (by simp)
             ·rw [if_neg c43] at H
              have c43b0 : decide (0 < x11_1) = false := decide_eq_false c43
              clear c43
              have H' := Aside0.mk H
              clear H
              try go_wp2
              have n0_ : Aside0 (Kd.R (Kd.int .i64) 3 ((w26.setCell ⟨gb291, 0, none⟩ (.int .i64 ((rd_T92 t281 (rd l1 x11_1)).f0))).setCell ⟨gb291, 1, none⟩ (.int .i64 ((rd_T92 t281 (rd l1 x11_1)).f1))) w.heap.size (fun _ => True) u10 x10_1) := ⟨by (with_reducible repeat (first | apply Kd.R_alloc | apply Kd.R_drewN | apply Kd.R_drew)); exact Kd.R_mono (Kd.R_far (p := ⟨gb291, 1, none⟩) (Kd.R_far (p := ⟨gb291, 0, none⟩) (Kd.R_types HO_10.out BK291.out (by decide)) (fun _ hk => hk.2) (.int .i64 ((rd_T92 t281 (rd l1 x11_1)).f0))) (fun _ hk => hk.2) (.int .i64 ((rd_T92 t281 (rd l1 x11_1)).f1))) (fun _ hk => trivial)⟩
              have n1_ : Aside0 (Kd.R k92 92 ((w26.setCell ⟨gb291, 0, none⟩ (.int .i64 ((rd_T92 t281 (rd l1 x11_1)).f0))).setCell ⟨gb291, 1, none⟩ (.int .i64 ((rd_T92 t281 (rd l1 x11_1)).f1))) w.heap.size (fun k_ => k_ ≠ gb291) (.slice (some ad290) t281.length co11) t281) := ⟨by (with_reducible repeat (first | apply Kd.R_alloc | apply Kd.R_drewN | apply Kd.R_drew)); exact Kd.R_mono (Kd.R_far (p := ⟨gb291, 1, none⟩) (Kd.R_far (p := ⟨gb291, 0, none⟩) (Kd.R_mono HO_285001.out (fun k_ hk => (⟨hk, hk.2⟩ : _ ∧ k_ ≠ gb291))) (fun _ hk => hk.2) (.int .i64 ((rd_T92 t281 (rd l1 x11_1)).f0))) (fun _ hk => hk.2) (.int .i64 ((rd_T92 t281 (rd l1 x11_1)).f1))) (fun _ hk => hk.1.2)⟩
              have n2_ : Aside0 (((w26.setCell ⟨gb291, 0, none⟩ (.int .i64 ((rd_T92 t281 (rd l1 x11_1)).f0))).setCell ⟨gb291, 1, none⟩ (.int .i64 ((rd_T92 t281 (rd l1 x11_1)).f1))).heap[gb279]? = some (.cells #[.slice A0_0 l0_0.length c0_0, .slice A0_1 l0_1.length c0_1, .slice A0_2 l0_2.length c0_2] 37 (0, 0))) := ⟨by (with_reducible repeat (first | refine blk_drewN ?_ _ | refine blk_drew ?_ | refine blk_alloc ?_ _)); refine blk_far ?_ NB279_291.out _; (with_reducible repeat (first | refine blk_drewN ?_ _ | refine blk_drew ?_ | refine blk_alloc ?_ _)); refine blk_far ?_ NB279_291.out _; (with_reducible repeat (first | refine blk_drewN ?_ _ | refine blk_drew ?_ | refine blk_alloc ?_ _)); exact BK279.out⟩
              have n3_ : Aside0 (((w26.setCell ⟨gb291, 0, none⟩ (.int .i64 ((rd_T92 t281 (rd l1 x11_1)).f0))).setCell ⟨gb291, 1, none⟩ (.int .i64 ((rd_T92 t281 (rd l1 x11_1)).f1))).heap[gb284]? = some (.cells #[.int .i64 t280, .slice (some ad290) t281.length co11] 51 (0, 0))) := ⟨by (with_reducible repeat (first | refine blk_drewN ?_ _ | refine blk_drew ?_ | refine blk_alloc ?_ _)); refine blk_far ?_ NB284_291.out _; (with_reducible repeat (first | refine blk_drewN ?_ _ | refine blk_drew ?_ | refine blk_alloc ?_ _)); refine blk_far ?_ NB284_291.out _; (with_reducible repeat (first | refine blk_drewN ?_ _ | refine blk_drew ?_ | refine blk_alloc ?_ _)); exact BK284.out⟩
              have n4_ : Aside0 (((w26.setCell ⟨gb291, 0, none⟩ (.int .i64 ((rd_T92 t281 (rd l1 x11_1)).f0))).setCell ⟨gb291, 1, none⟩ (.int .i64 ((rd_T92 t281 (rd l1 x11_1)).f1))).heap[gb291]? = some (.cells #[.int .i64 ((rd_T92 t281 (rd l1 x11_1)).f0), .int .i64 ((rd_T92 t281 (rd l1 x11_1)).f1)] 92 (0, 0))) := ⟨by (with_reducible repeat (first | refine blk_drewN ?_ _ | refine blk_drew ?_ | refine blk_alloc ?_ _)); refine blk_put (cs := #[.int .i64 ((rd_T92 t281 (rd l1 x11_1)).f0), .int .i64 0]) ?_ 1 _ rfl; (with_reducible repeat (first | refine blk_drewN ?_ _ | refine blk_drew ?_ | refine blk_alloc ?_ _)); refine blk_put (cs := #[.int .i64 0, .int .i64 0]) ?_ 0 _ rfl; (with_reducible repeat (first | refine blk_drewN ?_ _ | refine blk_drew ?_ | refine blk_alloc ?_ _)); exact BK291.out⟩
              have n5_ : Aside0 (Below w.heap.size w ((w26.setCell ⟨gb291, 0, none⟩ (.int .i64 ((rd_T92 t281 (rd l1 x11_1)).f0))).setCell ⟨gb291, 1, none⟩ (.int .i64 ((rd_T92 t281 (rd l1 x11_1)).f1)))) := ⟨byB3 HB.out GE279.out GE284.out GE291.out⟩
              (try clear HO_10)
              (try clear HO_285001)
              (try clear BK279)
              (try clear BK284)
              (try clear BK291)
              (try clear HB)
              generalize ((w26.setCell ⟨gb291, 0, none⟩ (.int .i64 ((rd_T92 t281 (rd l1 x11_1)).f0))).setCell ⟨gb291, 1, none⟩ (.int .i64 ((rd_T92 t281 (rd l1 x11_1)).f1))) = w51 at n0_ n1_ n2_ n3_ n4_ n5_ ⊢
              have HO_10 := n0_; have HO_285001 := n1_; have BK279 := n2_; have BK284 := n3_; have BK291 := n4_; have HB := n5_; clear n0_ n1_ n2_ n3_ n4_ n5_; have n0_ := Aside0.mk (Kd.R_drew HO_10.out); have n1_ := Aside0.mk (Kd.R_drew HO_285001.out); have n2_ := Aside0.mk (blk_drew BK279.out); have n3_ := Aside0.mk (blk_drew BK284.out); have n4_ := Aside0.mk (blk_drew BK291.out); have n5_ := Aside0.mk (below_drew1 HB.out); clear HO_10 HO_285001 BK279 BK284 BK291 HB; have HO_10 := n0_; have HO_285001 := n1_; have BK279 := n2_; have BK284 := n3_; have BK291 := n4_; have HB := n5_; clear n0_ n1_ n2_ n3_ n4_ n5_
              refine start_ (n := 27) (S := fun w' => True) (ds := []) (bits 27 0) (by kernel_rfl) rfl rfl trivial (fun hHeld => ?_); refine with_tabW mapmakerref47_Pieces.tab10 mapmakerref47_Pieces.bits10 (fun HT_ HW_ => ?_)
              generalize w51.drew = w52 at HO_10 HO_285001 BK279 BK284 BK291 HB hHeld ⊢
              refine q_ 0 48 HT_ ?_; refine q_ 1 49 HT_ ?_; refine q_ 2 50 HT_ ?_; refine qu_ 3 51 HT_ ?_; refine qu_ 4 52 HT_ ?_; refine qu_ 5 53 HT_ ?_; refine qu_ 6 54 HT_ ?_; refine q_ 7 55 HT_ ?_; refine q_ 8 56 HT_ ?_; refine q_ 9 57 HT_ ?_; refine q_ 10 58 HT_ ?_; refine q_ 11 59 HT_ ?_; refine qu_ 12 60 HT_ ?_; refine qu_ 13 61 HT_ ?_; refine qu_ 14 62 HT_ ?_; refine qu_ 15 63 HT_ ?_; refine qu_ 16 64 HT_ ?_; refine qu_ 17 65 HT_ ?_; refine qu_ 18 66 HT_ ?_; refine qu_ 19 67 HT_ ?_; refine qu_ 20 68 HT_ ?_; refine qu_ 21 69 HT_ ?_; refine qu_ 22 70 HT_ ?_; refine qu_ 23 71 HT_ ?_; refine qu_ 24 72 HT_ ?_; refine q_ 25 73 HT_ ?_; refine q_ 26 74 HT_ ?_
              refine done_ (done_of HT_.out (by kernel_rfl)) ?_
              try go_wp2
              go_meet
              case rel => exact ⟨_, (false), byF, H', ⟨by have := HK1.out; have := HJ13.out; first | omega | exact Nat.le_refl _⟩, ⟨by (with_reducible repeat (first | apply Kd.R_alloc | apply Kd.R_drewN | apply Kd.R_drew)); exact HO_10.out⟩, ⟨by (with_reducible repeat (first | apply Kd.R_alloc | apply Kd.R_drewN | apply Kd.R_drew)); exact HO_285001.out⟩, ⟨by (with_reducible repeat (first | refine blk_drewN ?_ _ | refine blk_drew ?_ | refine blk_alloc ?_ _)); exact BK279.out⟩, ⟨by (with_reducible repeat (first | refine blk_drewN ?_ _ | refine blk_drew ?_ | refine blk_alloc ?_ _)); exact BK284.out⟩, ⟨by (with_reducible repeat (first | refine blk_drewN ?_ _ | refine blk_drew ?_ | refine blk_alloc ?_ _)); exact BK291.out⟩, ⟨byB3 HB.out GE279.out GE284.out GE291.out⟩⟩
           case rest =>
            clear HC24
            try clear c2
            try clear p2
            try clear q2
            try clear hx2
            try clear c4
            try clear p6
            try clear c29
            try clear c29b0
            try clear c29b1
            try clear p29
            try clear q29
            try clear hx29
            try clear c43
            try clear c43b0
            try clear c45
            try clear c45b0
            try clear c46
            try clear c46b0
            try clear c47
            try clear c47b0
            try clear c48
            try clear c48b0
            try clear hx294_0
            try clear hx295_0
            try clear hx295_1
            try clear p294
            try clear p295
            try clear q294
            try clear q295
            obtain ⟨kq, x74_23, rfl, HA, HJ23, HO_10, HO_285001, BK279, BK284, BK291, HB⟩ := hcut
            cases kq with
            | zero => exact absurd HA.out (by simp [mapmakerref47_Pieces.j2])
            | succ kj23 =>
             have H := HA.out; clear HA
             simp only [mapmakerref47_Pieces.j2] at H
             by_cases c53 : x74_23 = true
             ·subst c53
              have H1 : (some (([] : List Int), false)) = some (r1, r2) := by rw [if_pos rfl] at H; exact H
              clear H; have H := H1; clear H1
              simp only [Option.some.injEq, Prod.mk.injEq] at H
              obtain ⟨rfl, rfl⟩ := H
              go_wp2
              go_ret2
              exact ⟨_, byE, by first | exact Kd.R_nil _ _ _ _ _ | exact Kd.N_nil _ _ _ _ _ | exact Kd.V_nil _ _ _ _ _ | exact Kd.Q_nil _ _ _ _ _ | exact Kd.S_nil _ _ _ _ _, byB3 HB.out GE279.out GE284.out GE291.out⟩
             ·replace c53 := Bool.eq_false_iff.mpr c53
              subst c53
              have H1 : (if ((rd_T92 t281 (rd l1 x11_1)).f1) < (l0_2.length : Int) then (if x10_1.length < 17592186044416 then (mapmakerref47_Pieces.l0 kj23 l1 (l0_2.length : Int) (x10_1 ++ [((rd_T92 t281 (rd l1 x11_1)).f1)]) (wrap64 (x11_1 + 1)) t280 t281) else (none)) else (mapmakerref47_Pieces.l0 kj23 l1 (l0_2.length : Int) x10_1 (wrap64 (x11_1 + 1)) t280 t281)) = some (r1, r2) := by rw [if_neg (show ¬ (false = true) by decide)] at H; exact H
              clear H; have H := H1; clear H1
              by_cases c54 : ((rd_T92 t281 (rd l1 x11_1)).f1) < (l0_2.length : Int)
              ·rw [if_pos c54] at H
               have c54b0 : decide (((rd_T92 t281 (rd l1 x11_1)).f1) < (l0_2.length : Int)) = true := decide_eq_true c54
               clear c54
               by_cases c55 : x10_1.length < 17592186044416
               ·rw [if_pos c55] at H
                have LMc55 := Aside0.mk c55; clear c55
                obtain ⟨y296, hy296⟩ : ∃ y_ : List Int, y_ = (x10_1 ++ [((rd_T92 t281 (rd l1 x11_1)).f1)]) := ⟨_, rfl⟩
                replace H : (mapmakerref47_Pieces.l0 kj23 l1 (l0_2.length : Int) y296 (wrap64 (x11_1 + 1)) t280 t281) = some (r1, r2) := by first | (rw [hy296]; with_reducible exact H) | (have H2_ := (Option.bind_some _ _).symm.trans H; rw [hy296]; with_reducible exact H2_) | (have H2_ := (Option.bind_some _ _).symm.trans H; with_reducible exact H2_) | with_reducible exact H | (rw [hy296]; exact H) | exact H
                have Ny296 := Aside0.mk hy296; clear hy296
                have H' := Aside0.mk H
                clear H; have hnb56 := NB291_279.out; have hnc56 := NB279_291.out; have hnb57 := NB291_284.out; have hnc57 := NB284_291.out
                have hcz58_0 : wc.cell? ⟨gb291, 0, none⟩ = some (.int .i64 ((rd_T92 t281 (rd l1 x11_1)).f0)) := (blk_cell BK291.out 0).trans rfl
                have hcz58_1 : wc.cell? ⟨gb291, 1, none⟩ = some (.int .i64 ((rd_T92 t281 (rd l1 x11_1)).f1)) := (blk_cell BK291.out 1).trans rfl
                have hfz58_0 := blk_frozen BK291.out 0; have hfz58_1 := blk_frozen BK291.out 1
                go_wp2_with (first | ((with_reducible refine gate_builtin (b := .append) (xs := #[.tmp 79, .tmp 82]) rfl ?_); (try (refine gate_guard (by rfl) ?_; dsimp only)); at_builtin; refine Kd.R_append (Kd.int .i64) (w0 := w) w.heap.size rfl (.tmp 79) (.tmp 82) 33 3 (.int .i64 0) 8 rfl Try.underlying33 info3 rfl (by decide) (by omega) u10 x10_1 ((rd_T92 t281 (rd l1 x11_1)).f1) [.int .i64 ((rd_T92 t281 (rd l1 x11_1)).f1)] (fun _ => True) (fun _ => False) rfl rfl ?aP (fun _ hk => hk.elim) ?aF ?aO ?aB ?aS ?aL ?_; (case aP => exact rfl); (case aB => exact (byB3 HB.out GE279.out GE284.out GE291.out)); (case aF => exact (fun _ _ => trivial)); (case aO => exact (byR HO_10.out)); (case aS => exact (below_size (byB3 HB.out GE279.out GE284.out GE291.out))); (case aL => have := LMc55.out; omega); intro v297 w59 ho hb hg hat; rw [← Ny296.out] at ho; have n0_ := Aside0.mk (Kd.R_over' (byR HO_285001.out) (Kd.R_typed (byR HO_10.out)) (by decide) hg); have n1_ := Aside0.mk (blk_grown (g := gb279) (o := .cells #[.slice A0_0 l0_0.length c0_0, .slice A0_1 l0_1.length c0_1, .slice A0_2 l0_2.length c0_2] 37 (0, 0)) (byK BK279.out) hg (Kd.R_ne HO_10.out BK279.out (by decide))); have n2_ := Aside0.mk (blk_grown (g := gb284) (o := .cells #[.int .i64 t280, .slice (some ad290) t281.length co11] 51 (0, 0)) (byK BK284.out) hg (Kd.R_ne HO_10.out BK284.out (by decide))); have n3_ := Aside0.mk (blk_grown (g := gb291) (o := .cells #[.int .i64 ((rd_T92 t281 (rd l1 x11_1)).f0), .int .i64 ((rd_T92 t281 (rd l1 x11_1)).f1)] 92 (0, 0)) (byK BK291.out) hg (Kd.R_ne HO_10.out BK291.out (by decide))); have n4_ := Aside0.mk (hb); have n5_ := Aside0.mk (ho); clear HO_285001 BK279 BK284 BK291 HB HO_10; have HO_285001 := n0_; have BK279 := n1_; have BK284 := n2_; have BK291 := n3_; have HB := n4_; have HO298 := n5_; clear n0_ n1_ n2_ n3_ n4_ n5_ ho hb hg hat))
                go_roundg kj23
                case measure => have := HK1.out; have := HJ13.out; have := HJ23.out; omega
                case rel => exact ⟨(y296), (wrap64 (x11_1 + 1)), byF, H', ⟨by have := HK1.out; have := HJ13.out; have := HJ23.out; omega⟩, ⟨by (with_reducible repeat (first | apply Kd.R_alloc | apply Kd.R_drewN | apply Kd.R_drew)); exact HO298.out⟩, ⟨by (with_reducible repeat (first | apply Kd.R_alloc | apply Kd.R_drewN | apply Kd.R_drew)); exact Kd.R_mono HO_285001.out (fun _ hk => trivial)⟩, ⟨by (with_reducible repeat (first | refine blk_drewN ?_ _ | refine blk_drew ?_ | refine blk_alloc ?_ _)); exact BK279.out⟩, ⟨by (with_reducible repeat (first | refine blk_drewN ?_ _ | refine blk_drew ?_ | refine blk_alloc ?_ _)); exact BK284.out⟩, ⟨byB3 HB.out GE279.out GE284.out GE291.out⟩⟩
               ·rw [if_neg c55] at H
                exact absurd H (by simp)
              ·rw [if_neg c54] at H
               have c54b0 : decide (((rd_T92 t281 (rd l1 x11_1)).f1) < (l0_2.length : Int)) = false := decide_eq_false c54
               clear c54
               have H' := Aside0.mk H
               clear H; have hnb60 := NB291_279.out; have hnc60 := NB279_291.out; have hnb61 := NB291_284.out; have hnc61 := NB284_291.out
               have hcz62_0 : wc.cell? ⟨gb291, 0, none⟩ = some (.int .i64 ((rd_T92 t281 (rd l1 x11_1)).f0)) := (blk_cell BK291.out 0).trans rfl
               have hcz62_1 : wc.cell? ⟨gb291, 1, none⟩ = some (.int .i64 ((rd_T92 t281 (rd l1 x11_1)).f1)) := (blk_cell BK291.out 1).trans rfl
               have hfz62_0 := blk_frozen BK291.out 0; have hfz62_1 := blk_frozen BK291.out 1
               go_wp2
               go_roundg kj23
               case measure => have := HK1.out; have := HJ13.out; have := HJ23.out; omega
               case rel => exact ⟨(x10_1), (wrap64 (x11_1 + 1)), byF, H', ⟨by have := HK1.out; have := HJ13.out; have := HJ23.out; omega⟩, ⟨by (with_reducible repeat (first | apply Kd.R_alloc | apply Kd.R_drewN | apply Kd.R_drew)); exact HO_10.out⟩, ⟨by (with_reducible repeat (first | apply Kd.R_alloc | apply Kd.R_drewN | apply Kd.R_drew)); exact Kd.R_mono HO_285001.out (fun _ hk => trivial)⟩, ⟨by (with_reducible repeat (first | refine blk_drewN ?_ _ | refine blk_drew ?_ | refine blk_alloc ?_ _)); exact BK279.out⟩, ⟨by (with_reducible repeat (first | refine blk_drewN ?_ _ | refine blk_drew ?_ | refine blk_alloc ?_ _)); exact BK284.out⟩, ⟨byB3 HB.out GE279.out GE284.out GE291.out⟩⟩
          ·rw [if_neg c23] at H
           exact absurd H (by simp)
         ·rw [if_neg c22] at H
          exact absurd H (by simp)
        ·rw [if_neg c21] at H
         exact absurd H (by simp)
       ·rw [if_neg c20] at H
        exact absurd H (by simp)
   ·rw [if_neg c13] at H
    have c13b0 : decide (x11_1 < (l1.length : Int)) = false := decide_eq_false c13
    clear c13
    by_cases c63 : (l1.length : Int) = 0
    ·rw [if_pos c63] at H
     have c63b0 : ((l1.length : Int) == 0) = true := beq_iff_eq.mpr c63
     have c63b1 : ((l1.length : Int) != 0) = false := bne_eq_false_iff_eq.mpr c63
     clear c63
     simp only [Option.some.injEq, Prod.mk.injEq] at H
     obtain ⟨rfl, rfl⟩ := H
     try go_wp2
     have n0_ := Aside0.mk (Kd.R_drew HO_10.out); have n1_ := Aside0.mk (Kd.R_drew HO_285001.out); have n2_ := Aside0.mk (blk_drew BK279.out); have n3_ := Aside0.mk (blk_drew BK284.out); have n4_ := Aside0.mk (below_drew1 HB.out); clear HO_10 HO_285001 BK279 BK284 HB; have HO_10 := n0_; have HO_285001 := n1_; have BK279 := n2_; have BK284 := n3_; have HB := n4_; clear n0_ n1_ n2_ n3_ n4_
     refine start_ (n := 18) (S := fun w' => True) (ds := []) (bits 18 0) (by kernel_rfl) rfl rfl trivial (fun hHeld => ?_); refine with_tabW mapmakerref47_Pieces.tab14 mapmakerref47_Pieces.bits14 (fun HT_ HW_ => ?_)
     generalize wr.drew = w64 at HO_10 HO_285001 BK279 BK284 HB hHeld ⊢
     refine q_ 0 84 HT_ ?_; refine q_ 1 85 HT_ ?_; refine q_ 2 86 HT_ ?_; refine q_ 3 87 HT_ ?_; refine qu_ 4 88 HT_ ?_; refine qu_ 5 89 HT_ ?_; refine qu_ 6 90 HT_ ?_; refine qu_ 7 91 HT_ ?_; refine qu_ 8 92 HT_ ?_; refine qu_ 9 93 HT_ ?_; refine qu_ 10 94 HT_ ?_; refine qu_ 11 95 HT_ ?_; refine qu_ 12 96 HT_ ?_; refine qu_ 13 97 HT_ ?_; refine qu_ 14 98 HT_ ?_; refine qu_ 15 99 HT_ ?_; refine qu_ 16 100 HT_ ?_; refine q_ 17 101 HT_ ?_
     refine done_ (done_of HT_.out (by kernel_rfl)) ?_
     try go_wp2
     go_ret2
     exact ⟨_, byE, by first | exact Kd.R_nil _ _ _ _ _ | exact Kd.N_nil _ _ _ _ _ | exact Kd.V_nil _ _ _ _ _ | exact Kd.Q_nil _ _ _ _ _ | exact Kd.S_nil _ _ _ _ _, byB2 HB.out GE279.out GE284.out⟩
    ·rw [if_neg c63] at H
     have c63b0 : ((l1.length : Int) == 0) = false := beq_eq_false_iff_ne.mpr c63
     have c63b1 : ((l1.length : Int) != 0) = true := bne_iff_ne.mpr c63
     have c63b2 : ¬ (l1 = []) := fun h_ => c63 (by rw [h_]; rfl)
     obtain ⟨ji65, hji65⟩ : ∃ j_ : Int, (wrap64 ((l1.length : Int) - 1)) = j_ := ⟨_, rfl⟩
     replace H : (if 0 ≤ (ji65) then (if (ji65) < (l1.length : Int) then (if 0 ≤ (rd l1 (ji65)) then (if (rd l1 (ji65)) < (t281.length : Int) then (if ((rd_T92 t281 (rd l1 (ji65))).f1) < (l0_2.length : Int) then (some (([] : List Int), false)) else (some (x10_1, true))) else (none)) else (none)) else (none)) else (none)) = some (r1, r2) := by first | (rw [hji65] at H; exact H) | (simp only [hji65] at H ⊢; exact H)
     have hji65w : (IntKind.i64.wrap ((l1.length : Int) - 1)) = ji65 := (i64_w _).trans hji65
     by_cases c66 : 0 ≤ (ji65)
     ·rw [if_pos c66] at H
      have c66b0 : decide (0 ≤ (ji65)) = true := decide_eq_true c66
      clear c66
      by_cases c67 : (ji65) < (l1.length : Int)
      ·rw [if_pos c67] at H
       have c67b0 : decide ((ji65) < (l1.length : Int)) = true := decide_eq_true c67
       clear c67
       by_cases c68 : 0 ≤ (rd l1 (ji65))
       ·rw [if_pos c68] at H
        have c68b0 : decide (0 ≤ (rd l1 (ji65))) = true := decide_eq_true c68
        clear c68
        by_cases c69 : (rd l1 (ji65)) < (t281.length : Int)
        ·rw [if_pos c69] at H
         have c69b0 : decide ((rd l1 (ji65)) < (t281.length : Int)) = true := decide_eq_true c69
         clear c69
         by_cases c70 : ((rd_T92 t281 (rd l1 (ji65))).f1) < (l0_2.length : Int)
         ·rw [if_pos c70] at H
          have c70b0 : decide (((rd_T92 t281 (rd l1 (ji65))).f1) < (l0_2.length : Int)) = true := decide_eq_true c70
          clear c70
          simp only [Option.some.injEq, Prod.mk.injEq] at H
          obtain ⟨rfl, rfl⟩ := H
          try go_wp2
          have n0_ := Aside0.mk (Kd.R_drew HO_10.out); have n1_ := Aside0.mk (Kd.R_drew HO_285001.out); have n2_ := Aside0.mk (blk_drew BK279.out); have n3_ := Aside0.mk (blk_drew BK284.out); have n4_ := Aside0.mk (below_drew1 HB.out); clear HO_10 HO_285001 BK279 BK284 HB; have HO_10 := n0_; have HO_285001 := n1_; have BK279 := n2_; have BK284 := n3_; have HB := n4_; clear n0_ n1_ n2_ n3_ n4_
          have p285 : 0 ≤ ((ji65) : Int) := odt
          have q285 : (ji65) < (l1.length : Int) := odt
          obtain ⟨ad285, e285, hx285_0⟩ := Kd.at_int HR1.out (ji65) p285 q285
          have hw285_0 := hx285_0
          cases e285
          replace hx285_0 := (HB.out.cell (World.block_lt_of_cell? w _ hx285_0)).trans hx285_0
          replace p285 := eq_true p285; replace q285 := eq_true q285
          have p286 : 0 ≤ ((rd l1 (ji65)) : Int) := odt
          have q286 : (rd l1 (ji65)) < (t281.length : Int) := odt
          obtain ⟨ad286, e286, hx286_0, hx286_1⟩ := at_T92 (Kd.R_reads' HO_285001.out).2.2 (rd l1 (ji65)) p286 q286
          cases e286
          replace p286 := eq_true p286; replace q286 := eq_true q286
          refine start_ (n := 18) (S := fun w' => w'.cell? ⟨gb284, 0, none⟩ = some (.int .i64 t280) ∧ w'.cell? ⟨gb284, 1, none⟩ = some (.slice (some ad286) t281.length co11) ∧ w'.cell? (ad285.add ((ji65)).toNat) = some (.int .i64 (rd l1 (ji65))) ∧ w'.cell? (ad286.add (((rd l1 (ji65))).toNat * 2)) = some (.int .i64 ((rd_T92 t281 (rd l1 (ji65))).f0)) ∧ w'.cell? ⟨(ad286.add (((rd l1 (ji65))).toNat * 2)).block, (ad286.add (((rd l1 (ji65))).toNat * 2)).off + 1, none⟩ = some (.int .i64 ((rd_T92 t281 (rd l1 (ji65))).f1))) (ds := []) (bits 18 0) (by kernel_rfl) rfl rfl ⟨(blk_cell BK284.out 0).trans rfl, (blk_cell BK284.out 1).trans rfl, ((HB.out.cell (World.block_lt_of_cell? w _ hw285_0)).trans hw285_0), hx286_0, hx286_1⟩ (fun hHeld => ?_); refine with_tabW mapmakerref47_Pieces.tab14 mapmakerref47_Pieces.bits14 (fun HT_ HW_ => ?_)
          generalize wr.drew = w71 at HO_10 HO_285001 BK279 BK284 HB hx285_0 hx286_0 hx286_1 hHeld ⊢
          refine q_ 0 84 HT_ ?_; refine q_ 1 85 HT_ ?_; refine q_ 2 86 HT_ ?_; refine q_ 3 87 HT_ ?_; refine q_ 4 88 HT_ ?_; refine q_ 6 90 HT_ ?_; refine q_ 7 91 HT_ ?_; refine q_ 8 92 HT_ ?_; refine q_ 9 93 HT_ ?_; refine q_ 10 94 HT_ ?_; refine q_ 15 99 HT_ ?_; refine r5_ 5 89 HT_ HW_ hHeld ?_; refine r5_ 11 95 HT_ HW_ hHeld ?_; refine q_ 12 96 HT_ ?_; refine q_ 13 97 HT_ ?_; refine r5_ 14 98 HT_ HW_ hHeld ?_; refine q_ 16 100 HT_ ?_; refine q_ 17 101 HT_ ?_
          refine done_ (done_of HT_.out (by kernel_rfl)) ?_
          try go_wp2
          go_ret2
          exact ⟨_, by first | rfl | (simp [errW_none, errW_some] <;> rfl) | (simp only [← hji65]; first | rfl | (simp [errW_none, errW_some] <;> rfl)) | (simp [*, errW_none, errW_some] <;> rfl), by first | exact Kd.R_nil _ _ _ _ _ | exact Kd.N_nil _ _ _ _ _ | exact Kd.V_nil _ _ _ _ _ | exact Kd.Q_nil _ _ _ _ _ | exact Kd.S_nil _ _ _ _ _, byB2 HB.out GE279.out GE284.out⟩
         ·rw [if_neg c70] at H
          have c70b0 : decide (((rd_T92 t281 (rd l1 (ji65))).f1) < (l0_2.length : Int)) = false := decide_eq_false c70
          clear c70
          simp only [Option.some.injEq, Prod.mk.injEq] at H
          obtain ⟨rfl, rfl⟩ := H
          try go_wp2
          have n0_ := Aside0.mk (Kd.R_drew HO_10.out); have n1_ := Aside0.mk (Kd.R_drew HO_285001.out); have n2_ := Aside0.mk (blk_drew BK279.out); have n3_ := Aside0.mk (blk_drew BK284.out); have n4_ := Aside0.mk (below_drew1 HB.out); clear HO_10 HO_285001 BK279 BK284 HB; have HO_10 := n0_; have HO_285001 := n1_; have BK279 := n2_; have BK284 := n3_; have HB := n4_; clear n0_ n1_ n2_ n3_ n4_
          have p285 : 0 ≤ ((ji65) : Int) := odt
          have q285 : (ji65) < (l1.length : Int) := odt
          obtain ⟨ad285, e285, hx285_0⟩ := Kd.at_int HR1.out (ji65) p285 q285
          have hw285_0 := hx285_0
          cases e285
          replace hx285_0 := (HB.out.cell (World.block_lt_of_cell? w _ hx285_0)).trans hx285_0
          replace p285 := eq_true p285; replace q285 := eq_true q285
          have p286 : 0 ≤ ((rd l1 (ji65)) : Int) := odt
          have q286 : (rd l1 (ji65)) < (t281.length : Int) := odt
          obtain ⟨ad286, e286, hx286_0, hx286_1⟩ := at_T92 (Kd.R_reads' HO_285001.out).2.2 (rd l1 (ji65)) p286 q286
          cases e286
          replace p286 := eq_true p286; replace q286 := eq_true q286
          refine start_ (n := 18) (S := fun w' => w'.cell? ⟨gb284, 0, none⟩ = some (.int .i64 t280) ∧ w'.cell? ⟨gb284, 1, none⟩ = some (.slice (some ad286) t281.length co11) ∧ w'.cell? (ad285.add ((ji65)).toNat) = some (.int .i64 (rd l1 (ji65))) ∧ w'.cell? (ad286.add (((rd l1 (ji65))).toNat * 2)) = some (.int .i64 ((rd_T92 t281 (rd l1 (ji65))).f0)) ∧ w'.cell? ⟨(ad286.add (((rd l1 (ji65))).toNat * 2)).block, (ad286.add (((rd l1 (ji65))).toNat * 2)).off + 1, none⟩ = some (.int .i64 ((rd_T92 t281 (rd l1 (ji65))).f1))) (ds := []) (bits 18 0) (by kernel_rfl) rfl rfl ⟨(blk_cell BK284.out 0).trans rfl, (blk_cell BK284.out 1).trans rfl, ((HB.out.cell (World.block_lt_of_cell? w _ hw285_0)).trans hw285_0), hx286_0, hx286_1⟩ (fun hHeld => ?_); refine with_tabW mapmakerref47_Pieces.tab14 mapmakerref47_Pieces.bits14 (fun HT_ HW_ => ?_)
          generalize wr.drew = w72 at HO_10 HO_285001 BK279 BK284 HB hx285_0 hx286_0 hx286_1 hHeld ⊢
          refine q_ 0 84 HT_ ?_; refine q_ 1 85 HT_ ?_; refine q_ 2 86 HT_ ?_; refine q_ 3 87 HT_ ?_; refine q_ 4 88 HT_ ?_; refine q_ 6 90 HT_ ?_; refine q_ 7 91 HT_ ?_; refine q_ 8 92 HT_ ?_; refine q_ 9 93 HT_ ?_; refine q_ 10 94 HT_ ?_; refine q_ 15 99 HT_ ?_; refine r5_ 5 89 HT_ HW_ hHeld ?_; refine r5_ 11 95 HT_ HW_ hHeld ?_; refine q_ 12 96 HT_ ?_; refine q_ 13 97 HT_ ?_; refine r5_ 14 98 HT_ HW_ hHeld ?_; refine q_ 16 100 HT_ ?_; refine q_ 17 101 HT_ ?_
          refine done_ (done_of HT_.out (by kernel_rfl)) ?_
          try go_wp2
          go_ret2
          exact ⟨_, by first | rfl | (simp [errW_none, errW_some] <;> rfl) | (simp only [← hji65]; first | rfl | (simp [errW_none, errW_some] <;> rfl)) | (simp [*, errW_none, errW_some] <;> rfl), by (with_reducible repeat (first | apply Kd.R_alloc | apply Kd.R_drewN | apply Kd.R_drew)); exact HO_10.out, byB2 HB.out GE279.out GE284.out⟩
        ·rw [if_neg c69] at H
         exact absurd H (by simp)
       ·rw [if_neg c68] at H
        exact absurd H (by simp)
      ·rw [if_neg c67] at H
       exact absurd H (by simp)
     ·rw [if_neg c66] at H
      exact absurd H (by simp)
end Go.Proofs.Ytaodlehnfjalnaa.Print
