/- Written by a program of this claim's author (xprint.py, over the kit's print.py): the call of mapmaker/mapmakerlaw47.TurnsAllows comes to what the Lean function of its name says. -/
import Derived.Test.YtaodlehnfjalnaaPrint0
import Derived.Test.YtaodlehnfjalnaaM0
import Derived.Test.YtaodlehnfjalnaaF16
import Derived.Test.YtaodlehnfjalnaaM6
import Derived.Test.YtaodlehnfjalnaaM9
import Derived.Test.YtaodlehnfjalnaaM12
import Derived.Test.YtaodlehnfjalnaaM14
import Derived.Test.YtaodlehnfjalnaaOpen
namespace Go.Proofs.Ytaodlehnfjalnaa.Print
open Go.RowKit Go.Proofs.YtaodlehnfjalnaaW.PrintWords Go.Proofs.YtaodlehnfjalnaaW.PrintLast Go.Proofs.YtaodlehnfjalnaaW.PrintMore
attribute [local go_sem] max2_int min2_int max_two min_two max_three min_three max_four min_four   -- for this text's walks alone
set_option linter.unusedVariables false
set_option linter.unusedSimpArgs false
/-! ### mapmakerlaw47_TurnsAllows: function 4 -/
def mapmakerlaw47_TurnsAllows.f (k : Nat) (l0_0 : List Int) (l0_1 : List (S158)) (l0_2 : List (S58)) (l1 : List (S42)) (a2 : Int) (a3 : Int) : Option (Bool) := (mapmakerlaw47_few.f k l0_0 l0_1 l0_2 l1).bind fun t358 => (if t358 = true then ((turns_Allowed.f l0_0 l0_1 l0_2 l1 a2 a3).bind fun t360 => ((mapmakerref47_Allowed.f l0_0 l0_1 l0_2 l1 a2 a3).bind fun t361 => (if (t360 == t361) = true then ((turns_Source.f k l0_0 l0_1 l0_2 a2).bind fun t362 => ((mapmakerref47_Source.f k l0_0 l0_1 l0_2 a2).bind fun t363 => (if t362 = t363 then ((turns_Target.f k l0_0 l0_1 l0_2 a2).bind fun t364 => ((mapmakerref47_Target.f k l0_0 l0_1 l0_2 a2).bind fun t365 => (if t364 = t365 then ((mapmakerlaw47_lives.f).bind fun t366 => (some t366)) else (some false)))) else (some false)))) else (some false)))) else ((mapmakerlaw47_lives.f).bind fun t359 => (some t359)))
def mapmakerlaw47_TurnsAllows.T3 : Bool × List (List Nat × List Nat) := (true, [([], []), ([], []), ([], []), ([], []), ([0, 1, 2, 3], [0, 1, 2, 3]), ([], []), ([], []), ([], []), ([], []), ([5, 6, 7, 8, 4], [5, 6, 7, 8]), ([4, 9], [4, 9]), ([10, 9], [10]), ([11], [11]), ([11], [11]), ([12, 13, 11, 11], [11, 12, 13]), ([11], [11]), ([11], [11]), ([15, 16, 14, 11], [11, 15, 16]), ([14, 17, 11], [11, 14, 17]), ([11, 18], [11, 18]), ([19, 17], [19]), ([20], [20]), ([20], [20]), ([21, 22, 20, 20], [20, 21, 22]), ([20], [20]), ([20], [20]), ([24, 25, 23, 20], [20, 24, 25]), ([23, 26, 20], [20, 23, 26]), ([20, 27], [20, 27]), ([28, 26], [28]), ([29, 29], [29]), ([29, 30], [29, 30]), ([31, 30, 0, 1, 2, 3, 4, 5, 6, 7, 8, 9, 10, 11, 12, 13, 14, 15, 16, 17, 18, 19, 20, 21, 22, 23, 24, 25, 26, 27, 28, 29, 30, 31], [31])])
def mapmakerlaw47_TurnsAllows.B3 : List Nat := [0, 0, 0, 0, 15, 0, 0, 0, 0, 511, 1023, 2047, 4095, 4095, 16383, 4095, 4095, 131071, 262143, 524287, 1048575, 2097151, 2097151, 8388607, 2097151, 2097151, 67108863, 134217727, 268435455, 536870911, 1073741823, 2147483647, 4294967295]
theorem mapmakerlaw47_TurnsAllows.tab3 : rtab .any (opsOf Try.f4 3) = mapmakerlaw47_TurnsAllows.T3 := by kernel_rfl
theorem mapmakerlaw47_TurnsAllows.bits3 : waitsOk mapmakerlaw47_TurnsAllows.T3.2 mapmakerlaw47_TurnsAllows.B3 = true := by kernel_rfl
set_option maxHeartbeats 8000000 in
set_option maxRecDepth 100000 in
theorem mapmakerlaw47_TurnsAllows.calls (k : Nat) (A0_0 : Option Addr) (c0_0 : Nat) (l0_0 : List Int) (A0_1 : Option Addr) (c0_1 : Nat) (l0_1 : List (S158)) (A0_2 : Option Addr) (c0_2 : Nat) (l0_2 : List (S58)) (A1 : Option Addr) (c1 : Nat) (l1 : List (S42)) (a2 : Int) (a3 : Int) (r : Bool) (w : World) (hr0_0 : Kd.C (Kd.int .i64) w A0_0 l0_0.length l0_0) (hc0_0 : l0_0.length ≤ c0_0) (hr0_1 : Kd.C k158 w A0_1 l0_1.length l0_1) (hc0_1 : l0_1.length ≤ c0_1) (hr0_2 : Kd.C k58 w A0_2 l0_2.length l0_2) (hc0_2 : l0_2.length ≤ c0_2) (hr1 : Kd.C k42 w A1 l1.length l1) (hc1 : l1.length ≤ c1) (h : mapmakerlaw47_TurnsAllows.f k l0_0 l0_1 l0_2 l1 a2 a3 = some r) :
  Calls Try.prog 4 #[.agg #[.slice A0_0 l0_0.length c0_0, .slice A0_1 l0_1.length c0_1, .slice A0_2 l0_2.length c0_2], .slice A1 l1.length c1, .int .i64 a2, .int .i64 a3] w fun e w' => e = .returned (.bool r) ∧ Below w.heap.size w w' := by
 have hu37 := Try.underlying37; have HR0_0 := Aside0.mk hr0_0; have HC0_0 := Aside0.mk hc0_0; clear hr0_0 hc0_0; have HR0_1 := Aside0.mk hr0_1; have HC0_1 := Aside0.mk hc0_1; clear hr0_1 hc0_1; have HR0_2 := Aside0.mk hr0_2; have HC0_2 := Aside0.mk hc0_2; clear hr0_2 hc0_2; have HR1 := Aside0.mk hr1; have HC1 := Aside0.mk hc1; clear hr1 hc1; have HB := Aside0.mk (Below.refl w.heap.size w)
 have H : ((mapmakerlaw47_few.f k l0_0 l0_1 l0_2 l1).bind fun t358 => (if t358 = true then ((turns_Allowed.f l0_0 l0_1 l0_2 l1 a2 a3).bind fun t360 => ((mapmakerref47_Allowed.f l0_0 l0_1 l0_2 l1 a2 a3).bind fun t361 => (if (t360 == t361) = true then ((turns_Source.f k l0_0 l0_1 l0_2 a2).bind fun t362 => ((mapmakerref47_Source.f k l0_0 l0_1 l0_2 a2).bind fun t363 => (if t362 = t363 then ((turns_Target.f k l0_0 l0_1 l0_2 a2).bind fun t364 => ((mapmakerref47_Target.f k l0_0 l0_1 l0_2 a2).bind fun t365 => (if t364 = t365 then ((mapmakerlaw47_lives.f).bind fun t366 => (some t366)) else (some false)))) else (some false)))) else (some false)))) else ((mapmakerlaw47_lives.f).bind fun t359 => (some t359)))) = some r := h
 clear h
 replace H := Option.bind_eq_some_iff.mp H
 obtain ⟨t358, A50, H⟩ := H
 replace H : (if t358 = true then ((turns_Allowed.f l0_0 l0_1 l0_2 l1 a2 a3).bind fun t360 => ((mapmakerref47_Allowed.f l0_0 l0_1 l0_2 l1 a2 a3).bind fun t361 => (if (t360 == t361) = true then ((turns_Source.f k l0_0 l0_1 l0_2 a2).bind fun t362 => ((mapmakerref47_Source.f k l0_0 l0_1 l0_2 a2).bind fun t363 => (if t362 = t363 then ((turns_Target.f k l0_0 l0_1 l0_2 a2).bind fun t364 => ((mapmakerref47_Target.f k l0_0 l0_1 l0_2 a2).bind fun t365 => (if t364 = t365 then ((mapmakerlaw47_lives.f).bind fun t366 => (some t366)) else (some false)))) else (some false)))) else (some false)))) else ((mapmakerlaw47_lives.f).bind fun t359 => (some t359))) = some r := H
 have A5 := Aside0.mk A50; clear A50
 by_cases c6 : t358 = true
 ·subst c6
  have H1 : ((turns_Allowed.f l0_0 l0_1 l0_2 l1 a2 a3).bind fun t360 => ((mapmakerref47_Allowed.f l0_0 l0_1 l0_2 l1 a2 a3).bind fun t361 => (if (t360 == t361) = true then ((turns_Source.f k l0_0 l0_1 l0_2 a2).bind fun t362 => ((mapmakerref47_Source.f k l0_0 l0_1 l0_2 a2).bind fun t363 => (if t362 = t363 then ((turns_Target.f k l0_0 l0_1 l0_2 a2).bind fun t364 => ((mapmakerref47_Target.f k l0_0 l0_1 l0_2 a2).bind fun t365 => (if t364 = t365 then ((mapmakerlaw47_lives.f).bind fun t366 => (some t366)) else (some false)))) else (some false)))) else (some false)))) = some r := by rw [if_pos rfl] at H; exact H
  clear H; have H := H1; clear H1
  replace H := Option.bind_eq_some_iff.mp H
  obtain ⟨t360, A70, H⟩ := H
  replace H : ((mapmakerref47_Allowed.f l0_0 l0_1 l0_2 l1 a2 a3).bind fun t361 => (if (t360 == t361) = true then ((turns_Source.f k l0_0 l0_1 l0_2 a2).bind fun t362 => ((mapmakerref47_Source.f k l0_0 l0_1 l0_2 a2).bind fun t363 => (if t362 = t363 then ((turns_Target.f k l0_0 l0_1 l0_2 a2).bind fun t364 => ((mapmakerref47_Target.f k l0_0 l0_1 l0_2 a2).bind fun t365 => (if t364 = t365 then ((mapmakerlaw47_lives.f).bind fun t366 => (some t366)) else (some false)))) else (some false)))) else (some false))) = some r := H
  have A7 := Aside0.mk A70; clear A70
  replace H := Option.bind_eq_some_iff.mp H
  obtain ⟨t361, A80, H⟩ := H
  replace H : (if (t360 == t361) = true then ((turns_Source.f k l0_0 l0_1 l0_2 a2).bind fun t362 => ((mapmakerref47_Source.f k l0_0 l0_1 l0_2 a2).bind fun t363 => (if t362 = t363 then ((turns_Target.f k l0_0 l0_1 l0_2 a2).bind fun t364 => ((mapmakerref47_Target.f k l0_0 l0_1 l0_2 a2).bind fun t365 => (if t364 = t365 then ((mapmakerlaw47_lives.f).bind fun t366 => (some t366)) else (some false)))) else (some false)))) else (some false)) = some r := H
  have A8 := Aside0.mk A80; clear A80
  by_cases c9 : (t360 == t361) = true
  ·rw [if_pos c9] at H
   have c9b0 : (t360 == t361) = true := c9
   (try (have c9b1 : decide (t360 = t361) = true := by simpa using c9))
   (try (have c9b2 : (t360 == t361) = true := by simpa using c9))
   clear c9
   replace H := Option.bind_eq_some_iff.mp H
   obtain ⟨t362, A100, H⟩ := H
   replace H : ((mapmakerref47_Source.f k l0_0 l0_1 l0_2 a2).bind fun t363 => (if t362 = t363 then ((turns_Target.f k l0_0 l0_1 l0_2 a2).bind fun t364 => ((mapmakerref47_Target.f k l0_0 l0_1 l0_2 a2).bind fun t365 => (if t364 = t365 then ((mapmakerlaw47_lives.f).bind fun t366 => (some t366)) else (some false)))) else (some false))) = some r := H
   have A10 := Aside0.mk A100; clear A100
   replace H := Option.bind_eq_some_iff.mp H
   obtain ⟨t363, A110, H⟩ := H
   replace H : (if t362 = t363 then ((turns_Target.f k l0_0 l0_1 l0_2 a2).bind fun t364 => ((mapmakerref47_Target.f k l0_0 l0_1 l0_2 a2).bind fun t365 => (if t364 = t365 then ((mapmakerlaw47_lives.f).bind fun t366 => (some t366)) else (some false)))) else (some false)) = some r := H
   have A11 := Aside0.mk A110; clear A110
   by_cases c12 : t362 = t363
   ·rw [if_pos c12] at H
    have c12b0 : (t362 == t363) = true := beq_iff_eq.mpr c12
    have c12b1 : (t362 != t363) = false := bne_eq_false_iff_eq.mpr c12
    clear c12
    replace H := Option.bind_eq_some_iff.mp H
    obtain ⟨t364, A130, H⟩ := H
    replace H : ((mapmakerref47_Target.f k l0_0 l0_1 l0_2 a2).bind fun t365 => (if t364 = t365 then ((mapmakerlaw47_lives.f).bind fun t366 => (some t366)) else (some false))) = some r := H
    have A13 := Aside0.mk A130; clear A130
    replace H := Option.bind_eq_some_iff.mp H
    obtain ⟨t365, A140, H⟩ := H
    replace H : (if t364 = t365 then ((mapmakerlaw47_lives.f).bind fun t366 => (some t366)) else (some false)) = some r := H
    have A14 := Aside0.mk A140; clear A140
    by_cases c15 : t364 = t365
    ·rw [if_pos c15] at H
     have c15b0 : (t364 == t365) = true := beq_iff_eq.mpr c15
     have c15b1 : (t364 != t365) = false := bne_eq_false_iff_eq.mpr c15
     clear c15
     replace H := Option.bind_eq_some_iff.mp H
     obtain ⟨t366, A160, H⟩ := H
     replace H : (some t366) = some r := H
     have A16 := Aside0.mk A160; clear A160
     obtain rfl := Option.some.inj H
     go_enter Try.func4, Try.ntmps4
     try go_wp2_with (first | ((with_reducible refine gate_dst (N := 4) rfl ?_); refine box_event ?hg (N := 4) ?hd (cs := #[.slice A0_0 l0_0.length c0_0, .slice A0_1 l0_1.length c0_1, .slice A0_2 l0_2.length c0_2]) (t := 37) ?hr ?_; (case hd => rfl); (case hg => rfl); (case hr => first | (go_simp; done) | (go_simp; rfl)); intro gb357 hg w17 hbox hb; have n0_ := Aside0.mk (below_step (byB HB.out) hb); have n1_ := Aside0.mk (hbox); have n2_ := Aside0.mk ((by rw [hg]; exact (below_size (byB HB.out)) : w.heap.size ≤ gb357)); have n3_ := Aside0.mk ((by rw [hg]; exact (below_size (byB HB.out)) : w.heap.size ≤ gb357)); clear HB; have HB := n0_; have BK357 := n1_; have GW357 := n2_; have GE357 := n3_; clear n0_ n1_ n2_ n3_ hb hbox hg; have hcz18_0 : w17.cell? ⟨gb357, 0, none⟩ = some (.slice A0_0 l0_0.length c0_0) := (blk_cell BK357.out 0).trans rfl; have hcz18_1 : w17.cell? ⟨gb357, 1, none⟩ = some (.slice A0_1 l0_1.length c0_1) := (blk_cell BK357.out 1).trans rfl; have hcz18_2 : w17.cell? ⟨gb357, 2, none⟩ = some (.slice A0_2 l0_2.length c0_2) := (blk_cell BK357.out 2).trans rfl; have hfz18_0 := blk_frozen BK357.out 0; have hfz18_1 := blk_frozen BK357.out 1; have hfz18_2 := blk_frozen BK357.out 2) | ((with_reducible refine gate_callee (f := 13) rfl ?_); refine goesL_ (some 11) rfl rfl Try.func13 (by kernel_rfl) rfl #[.agg #[.slice A0_0 l0_0.length c0_0, .slice A0_1 l0_1.length c0_1, .slice A0_2 l0_2.length c0_2], .slice A1 l1.length c1] rfl byL ?_; (with_reducible refine (mapmakerlaw47_few.calls k _ _ l0_0 _ _ l0_1 _ _ l0_2 _ _ l1 true _ ?side1 ?side2 ?side3 ?side4 ?side5 ?side6 ?side7 ?side8 A5.out).mono ?_); (case side1 => exact byC (Kd.C_below HR0_0.out HB.out)); (case side2 => exact HC0_0.out); (case side3 => exact byC (Kd.C_below HR0_1.out HB.out)); (case side4 => exact HC0_1.out); (case side5 => exact byC (Kd.C_below HR0_2.out HB.out)); (case side6 => exact HC0_2.out); (case side7 => exact byC (Kd.C_below HR1.out HB.out)); (case side8 => exact HC1.out); rintro e w19 ⟨rfl, hb⟩; refine ⟨_, rfl, ?_⟩; have n0_ := Aside0.mk (blk_below (g := gb357) (o := .cells #[.slice A0_0 l0_0.length c0_0, .slice A0_1 l0_1.length c0_1, .slice A0_2 l0_2.length c0_2] 37 (0, 0)) (byK BK357.out) hb); have n1_ := Aside0.mk (below_step (byB1 HB.out GE357.out) hb); clear BK357 HB; have BK357 := n0_; have HB := n1_; clear n0_ n1_; (try clear hb); (try clear hb2); (try clear hk); (try clear hi)))
     have n0_ := Aside0.mk (blk_drew BK357.out); have n1_ := Aside0.mk (below_drew1 HB.out); clear BK357 HB; have BK357 := n0_; have HB := n1_; clear n0_ n1_
     refine start_ (n := 33) (S := fun w' => w'.cell? ⟨gb357, 0, none⟩ = some (.slice A0_0 l0_0.length c0_0) ∧ w'.cell? ⟨gb357, 1, none⟩ = some (.slice A0_1 l0_1.length c0_1) ∧ w'.cell? ⟨gb357, 2, none⟩ = some (.slice A0_2 l0_2.length c0_2)) (ds := []) (bits 33 0) (by kernel_rfl) rfl rfl ⟨(blk_cell BK357.out 0).trans rfl, (blk_cell BK357.out 1).trans rfl, (blk_cell BK357.out 2).trans rfl⟩ (fun hHeld => ?_); refine with_tabW mapmakerlaw47_TurnsAllows.tab3 mapmakerlaw47_TurnsAllows.bits3 (fun HT_ HW_ => ?_)
     generalize w19.drew = w20 at BK357 HB hHeld ⊢
     refine q_ 1 15 HT_ ?_; refine q_ 2 16 HT_ ?_; refine q_ 3 17 HT_ ?_; refine q_ 6 20 HT_ ?_; refine q_ 7 21 HT_ ?_; refine q_ 8 22 HT_ ?_; refine r3_ 0 14 HT_ HW_ hHeld ?_; refine r3_ 5 19 HT_ HW_ hHeld ?_; refine one_ (i := 4) (N := some 18) (bits 33 511) rfl rfl (one_of HT_.out (by kernel_rfl)) (by decide) (fun K hK => ?_)
     refine goes_ Try.func14 (by kernel_rfl) rfl #[.agg #[.slice A0_0 l0_0.length c0_0, .slice A0_1 l0_1.length c0_1, .slice A0_2 l0_2.length c0_2], .slice A1 l1.length c1, .int .i64 a2, .int .i64 a3] (by rfl) rfl rfl byL ?_
     with_reducible refine (turns_Allowed.calls _ _ l0_0 _ _ l0_1 _ _ l0_2 _ _ l1 a2 a3 t360 _ ?side1 ?side2 ?side3 ?side4 ?side5 ?side6 ?side7 ?side8 A7.out).mono ?_
     (case side1 => exact byC (Kd.C_below HR0_0.out HB.out))
     (case side2 => exact HC0_0.out)
     (case side3 => exact byC (Kd.C_below HR0_1.out HB.out))
     (case side4 => exact HC0_1.out)
     (case side5 => exact byC (Kd.C_below HR0_2.out HB.out))
     (case side6 => exact HC0_2.out)
     (case side7 => exact byC (Kd.C_below HR1.out HB.out))
     (case side8 => exact HC1.out)
     rintro e w21 ⟨rfl, hb⟩
     refine ⟨_, rfl, ?_⟩
     have n0_ := Aside0.mk (blk_below (g := gb357) (o := .cells #[.slice A0_0 l0_0.length c0_0, .slice A0_1 l0_1.length c0_1, .slice A0_2 l0_2.length c0_2] 37 (0, 0)) (byK BK357.out) hb); have n1_ := Aside0.mk (below_step (byB1 HB.out GE357.out) hb); clear BK357 HB; have BK357 := n0_; have HB := n1_; clear n0_ n1_
     (try clear hb)
     (try clear hb2)
     (try clear hk)
     (try clear hi)
     refine hK.out _ _ ⟨(blk_cell BK357.out 0).trans rfl, (blk_cell BK357.out 1).trans rfl, (blk_cell BK357.out 2).trans rfl⟩ (fun hHeld => ?_)
     clear hK K
     refine norm_ (a' := ?_) ?_ ?_
     rotate_left
     ·show Act.put _ (some 18) _ = _
      simp only [putW]; rfl
     refine one_ (i := 9) (N := some 23) (bits 33 1023) rfl rfl (one_of HT_.out (by kernel_rfl)) (by decide) (fun K hK => ?_)
     refine goes_ Try.func15 (by kernel_rfl) rfl #[.agg #[.slice A0_0 l0_0.length c0_0, .slice A0_1 l0_1.length c0_1, .slice A0_2 l0_2.length c0_2], .slice A1 l1.length c1, .int .i64 a2, .int .i64 a3] (by rfl) rfl rfl byL ?_
     with_reducible refine (mapmakerref47_Allowed.calls _ _ l0_0 _ _ l0_1 _ _ l0_2 _ _ l1 a2 a3 t361 _ ?side1 ?side2 ?side3 ?side4 ?side5 ?side6 ?side7 ?side8 A8.out).mono ?_
     (case side1 => exact byC (Kd.C_below HR0_0.out HB.out))
     (case side2 => exact HC0_0.out)
     (case side3 => exact byC (Kd.C_below HR0_1.out HB.out))
     (case side4 => exact HC0_1.out)
     (case side5 => exact byC (Kd.C_below HR0_2.out HB.out))
     (case side6 => exact HC0_2.out)
     (case side7 => exact byC (Kd.C_below HR1.out HB.out))
     (case side8 => exact HC1.out)
     rintro e w22 ⟨rfl, hb⟩
     refine ⟨_, rfl, ?_⟩
     have n0_ := Aside0.mk (blk_below (g := gb357) (o := .cells #[.slice A0_0 l0_0.length c0_0, .slice A0_1 l0_1.length c0_1, .slice A0_2 l0_2.length c0_2] 37 (0, 0)) (byK BK357.out) hb); have n1_ := Aside0.mk (below_step (byB1 HB.out GE357.out) hb); clear BK357 HB; have BK357 := n0_; have HB := n1_; clear n0_ n1_
     (try clear hb)
     (try clear hb2)
     (try clear hk)
     (try clear hi)
     refine hK.out _ _ ⟨(blk_cell BK357.out 0).trans rfl, (blk_cell BK357.out 1).trans rfl, (blk_cell BK357.out 2).trans rfl⟩ (fun hHeld => ?_)
     clear hK K
     refine norm_ (a' := ?_) ?_ ?_
     rotate_left
     ·show Act.put _ (some 23) _ = _
      simp only [putW]; rfl
     refine q_ 10 24 HT_ ?_; refine q_ 11 25 HT_ ?_; refine q_ 13 27 HT_ ?_; refine q_ 16 30 HT_ ?_; refine r3_ 12 26 HT_ HW_ hHeld ?_; refine r3_ 15 29 HT_ HW_ hHeld ?_; refine one_ (i := 14) (N := some 28) (bits 33 131071) rfl rfl (one_of HT_.out (by kernel_rfl)) (by decide) (fun K hK => ?_)
     refine goes_ Try.func16 (by kernel_rfl) rfl #[.agg #[.slice A0_0 l0_0.length c0_0, .slice A0_1 l0_1.length c0_1, .slice A0_2 l0_2.length c0_2], .int .i64 a2] (by rfl) rfl rfl byL ?_
     with_reducible refine (turns_Source.calls k _ _ l0_0 _ _ l0_1 _ _ l0_2 a2 t362 _ ?side1 ?side2 ?side3 ?side4 ?side5 ?side6 A10.out).mono ?_
     (case side1 => exact byC (Kd.C_below HR0_0.out HB.out))
     (case side2 => exact HC0_0.out)
     (case side3 => exact byC (Kd.C_below HR0_1.out HB.out))
     (case side4 => exact HC0_1.out)
     (case side5 => exact byC (Kd.C_below HR0_2.out HB.out))
     (case side6 => exact HC0_2.out)
     rintro e w23 ⟨rfl, hb⟩
     refine ⟨_, rfl, ?_⟩
     have n0_ := Aside0.mk (blk_below (g := gb357) (o := .cells #[.slice A0_0 l0_0.length c0_0, .slice A0_1 l0_1.length c0_1, .slice A0_2 l0_2.length c0_2] 37 (0, 0)) (byK BK357.out) hb); have n1_ := Aside0.mk (below_step (byB1 HB.out GE357.out) hb); clear BK357 HB; have BK357 := n0_; have HB := n1_; clear n0_ n1_
     (try clear hb)
     (try clear hb2)
     (try clear hk)
     (try clear hi)
     refine hK.out _ _ ⟨(blk_cell BK357.out 0).trans rfl, (blk_cell BK357.out 1).trans rfl, (blk_cell BK357.out 2).trans rfl⟩ (fun hHeld => ?_)
     clear hK K
     refine norm_ (a' := ?_) ?_ ?_
     rotate_left
     ·show Act.put _ (some 28) _ = _
      simp only [putW]; rfl
     refine one_ (i := 17) (N := some 31) (bits 33 262143) rfl rfl (one_of HT_.out (by kernel_rfl)) (by decide) (fun K hK => ?_)
     refine goes_ Try.func17 (by kernel_rfl) rfl #[.agg #[.slice A0_0 l0_0.length c0_0, .slice A0_1 l0_1.length c0_1, .slice A0_2 l0_2.length c0_2], .int .i64 a2] (by rfl) rfl rfl byL ?_
     with_reducible refine (mapmakerref47_Source.calls k _ _ l0_0 _ _ l0_1 _ _ l0_2 a2 t363 _ ?side1 ?side2 ?side3 ?side4 ?side5 ?side6 A11.out).mono ?_
     (case side1 => exact byC (Kd.C_below HR0_0.out HB.out))
     (case side2 => exact HC0_0.out)
     (case side3 => exact byC (Kd.C_below HR0_1.out HB.out))
     (case side4 => exact HC0_1.out)
     (case side5 => exact byC (Kd.C_below HR0_2.out HB.out))
     (case side6 => exact HC0_2.out)
     rintro e w24 ⟨rfl, hb⟩
     refine ⟨_, rfl, ?_⟩
     have n0_ := Aside0.mk (blk_below (g := gb357) (o := .cells #[.slice A0_0 l0_0.length c0_0, .slice A0_1 l0_1.length c0_1, .slice A0_2 l0_2.length c0_2] 37 (0, 0)) (byK BK357.out) hb); have n1_ := Aside0.mk (below_step (byB1 HB.out GE357.out) hb); clear BK357 HB; have BK357 := n0_; have HB := n1_; clear n0_ n1_
     (try clear hb)
     (try clear hb2)
     (try clear hk)
     (try clear hi)
     refine hK.out _ _ ⟨(blk_cell BK357.out 0).trans rfl, (blk_cell BK357.out 1).trans rfl, (blk_cell BK357.out 2).trans rfl⟩ (fun hHeld => ?_)
     clear hK K
     refine norm_ (a' := ?_) ?_ ?_
     rotate_left
     ·show Act.put _ (some 31) _ = _
      simp only [putW]; rfl
     refine q_ 18 32 HT_ ?_; refine q_ 19 33 HT_ ?_; refine q_ 20 34 HT_ ?_; refine q_ 22 36 HT_ ?_; refine q_ 25 39 HT_ ?_; refine r3_ 21 35 HT_ HW_ hHeld ?_; refine r3_ 24 38 HT_ HW_ hHeld ?_; refine one_ (i := 23) (N := some 37) (bits 33 67108863) rfl rfl (one_of HT_.out (by kernel_rfl)) (by decide) (fun K hK => ?_)
     refine goes_ Try.func18 (by kernel_rfl) rfl #[.agg #[.slice A0_0 l0_0.length c0_0, .slice A0_1 l0_1.length c0_1, .slice A0_2 l0_2.length c0_2], .int .i64 a2] (by rfl) rfl rfl byL ?_
     with_reducible refine (turns_Target.calls k _ _ l0_0 _ _ l0_1 _ _ l0_2 a2 t364 _ ?side1 ?side2 ?side3 ?side4 ?side5 ?side6 A13.out).mono ?_
     (case side1 => exact byC (Kd.C_below HR0_0.out HB.out))
     (case side2 => exact HC0_0.out)
     (case side3 => exact byC (Kd.C_below HR0_1.out HB.out))
     (case side4 => exact HC0_1.out)
     (case side5 => exact byC (Kd.C_below HR0_2.out HB.out))
     (case side6 => exact HC0_2.out)
     rintro e w25 ⟨rfl, hb⟩
     refine ⟨_, rfl, ?_⟩
     have n0_ := Aside0.mk (blk_below (g := gb357) (o := .cells #[.slice A0_0 l0_0.length c0_0, .slice A0_1 l0_1.length c0_1, .slice A0_2 l0_2.length c0_2] 37 (0, 0)) (byK BK357.out) hb); have n1_ := Aside0.mk (below_step (byB1 HB.out GE357.out) hb); clear BK357 HB; have BK357 := n0_; have HB := n1_; clear n0_ n1_
     (try clear hb)
     (try clear hb2)
     (try clear hk)
     (try clear hi)
     refine hK.out _ _ ⟨(blk_cell BK357.out 0).trans rfl, (blk_cell BK357.out 1).trans rfl, (blk_cell BK357.out 2).trans rfl⟩ (fun hHeld => ?_)
     clear hK K
     refine norm_ (a' := ?_) ?_ ?_
     rotate_left
     ·show Act.put _ (some 37) _ = _
      simp only [putW]; rfl
     refine one_ (i := 26) (N := some 40) (bits 33 134217727) rfl rfl (one_of HT_.out (by kernel_rfl)) (by decide) (fun K hK => ?_)
     refine goes_ Try.func19 (by kernel_rfl) rfl #[.agg #[.slice A0_0 l0_0.length c0_0, .slice A0_1 l0_1.length c0_1, .slice A0_2 l0_2.length c0_2], .int .i64 a2] (by rfl) rfl rfl byL ?_
     with_reducible refine (mapmakerref47_Target.calls k _ _ l0_0 _ _ l0_1 _ _ l0_2 a2 t365 _ ?side1 ?side2 ?side3 ?side4 ?side5 ?side6 A14.out).mono ?_
     (case side1 => exact byC (Kd.C_below HR0_0.out HB.out))
     (case side2 => exact HC0_0.out)
     (case side3 => exact byC (Kd.C_below HR0_1.out HB.out))
     (case side4 => exact HC0_1.out)
     (case side5 => exact byC (Kd.C_below HR0_2.out HB.out))
     (case side6 => exact HC0_2.out)
     rintro e w26 ⟨rfl, hb⟩
     refine ⟨_, rfl, ?_⟩
     have n0_ := Aside0.mk (blk_below (g := gb357) (o := .cells #[.slice A0_0 l0_0.length c0_0, .slice A0_1 l0_1.length c0_1, .slice A0_2 l0_2.length c0_2] 37 (0, 0)) (byK BK357.out) hb); have n1_ := Aside0.mk (below_step (byB1 HB.out GE357.out) hb); clear BK357 HB; have BK357 := n0_; have HB := n1_; clear n0_ n1_
     (try clear hb)
     (try clear hb2)
     (try clear hk)
     (try clear hi)
     refine hK.out _ _ ⟨(blk_cell BK357.out 0).trans rfl, (blk_cell BK357.out 1).trans rfl, (blk_cell BK357.out 2).trans rfl⟩ (fun hHeld => ?_)
     clear hK K
     refine norm_ (a' := ?_) ?_ ?_
     rotate_left
     ·show Act.put _ (some 40) _ = _
      simp only [putW]; rfl
     refine q_ 27 41 HT_ ?_; refine q_ 28 42 HT_ ?_; refine q_ 29 43 HT_ ?_; refine one_ (i := 30) (N := some 44) (bits 33 2147483647) rfl rfl (one_of HT_.out (by kernel_rfl)) (by decide) (fun K hK => ?_)
     refine goes_ Try.func9 (by kernel_rfl) rfl #[] (by rfl) rfl rfl byL ?_
     with_reducible refine (mapmakerlaw47_lives.calls  t366 _ A16.out).mono ?_
     rintro e w27 ⟨rfl, hb⟩
     refine ⟨_, rfl, ?_⟩
     have n0_ := Aside0.mk (blk_below (g := gb357) (o := .cells #[.slice A0_0 l0_0.length c0_0, .slice A0_1 l0_1.length c0_1, .slice A0_2 l0_2.length c0_2] 37 (0, 0)) (byK BK357.out) hb); have n1_ := Aside0.mk (below_step (byB1 HB.out GE357.out) hb); clear BK357 HB; have BK357 := n0_; have HB := n1_; clear n0_ n1_
     (try clear hb)
     (try clear hb2)
     (try clear hk)
     (try clear hi)
     refine hK.out _ _ ⟨(blk_cell BK357.out 0).trans rfl, (blk_cell BK357.out 1).trans rfl, (blk_cell BK357.out 2).trans rfl⟩ (fun hHeld => ?_)
     clear hK K
     refine norm_ (a' := ?_) ?_ ?_
     rotate_left
     ·show Act.put _ (some 44) _ = _
      simp only [putW]; rfl
     refine q_ 31 45 HT_ ?_; refine q_ 32 8 HT_ ?_
     refine done_ (done_of HT_.out (by kernel_rfl)) ?_
     try go_wp2
     go_ret
     exact ⟨byE, byB1 HB.out GE357.out⟩
    ·rw [if_neg c15] at H
     have c15b0 : (t364 == t365) = false := beq_eq_false_iff_ne.mpr c15
     have c15b1 : (t364 != t365) = true := bne_iff_ne.mpr c15
     obtain rfl := Option.some.inj H
     go_enter Try.func4, Try.ntmps4
     try go_wp2_with (first | ((with_reducible refine gate_dst (N := 4) rfl ?_); refine box_event ?hg (N := 4) ?hd (cs := #[.slice A0_0 l0_0.length c0_0, .slice A0_1 l0_1.length c0_1, .slice A0_2 l0_2.length c0_2]) (t := 37) ?hr ?_; (case hd => rfl); (case hg => rfl); (case hr => first | (go_simp; done) | (go_simp; rfl)); intro gb357 hg w28 hbox hb; have n0_ := Aside0.mk (below_step (byB HB.out) hb); have n1_ := Aside0.mk (hbox); have n2_ := Aside0.mk ((by rw [hg]; exact (below_size (byB HB.out)) : w.heap.size ≤ gb357)); have n3_ := Aside0.mk ((by rw [hg]; exact (below_size (byB HB.out)) : w.heap.size ≤ gb357)); clear HB; have HB := n0_; have BK357 := n1_; have GW357 := n2_; have GE357 := n3_; clear n0_ n1_ n2_ n3_ hb hbox hg; have hcz29_0 : w28.cell? ⟨gb357, 0, none⟩ = some (.slice A0_0 l0_0.length c0_0) := (blk_cell BK357.out 0).trans rfl; have hcz29_1 : w28.cell? ⟨gb357, 1, none⟩ = some (.slice A0_1 l0_1.length c0_1) := (blk_cell BK357.out 1).trans rfl; have hcz29_2 : w28.cell? ⟨gb357, 2, none⟩ = some (.slice A0_2 l0_2.length c0_2) := (blk_cell BK357.out 2).trans rfl; have hfz29_0 := blk_frozen BK357.out 0; have hfz29_1 := blk_frozen BK357.out 1; have hfz29_2 := blk_frozen BK357.out 2) | ((with_reducible refine gate_callee (f := 13) rfl ?_); refine goesL_ (some 11) rfl rfl Try.func13 (by kernel_rfl) rfl #[.agg #[.slice A0_0 l0_0.length c0_0, .slice A0_1 l0_1.length c0_1, .slice A0_2 l0_2.length c0_2], .slice A1 l1.length c1] rfl byL ?_; (with_reducible refine (mapmakerlaw47_few.calls k _ _ l0_0 _ _ l0_1 _ _ l0_2 _ _ l1 true _ ?side1 ?side2 ?side3 ?side4 ?side5 ?side6 ?side7 ?side8 A5.out).mono ?_); (case side1 => exact byC (Kd.C_below HR0_0.out HB.out)); (case side2 => exact HC0_0.out); (case side3 => exact byC (Kd.C_below HR0_1.out HB.out)); (case side4 => exact HC0_1.out); (case side5 => exact byC (Kd.C_below HR0_2.out HB.out)); (case side6 => exact HC0_2.out); (case side7 => exact byC (Kd.C_below HR1.out HB.out)); (case side8 => exact HC1.out); rintro e w30 ⟨rfl, hb⟩; refine ⟨_, rfl, ?_⟩; have n0_ := Aside0.mk (blk_below (g := gb357) (o := .cells #[.slice A0_0 l0_0.length c0_0, .slice A0_1 l0_1.length c0_1, .slice A0_2 l0_2.length c0_2] 37 (0, 0)) (byK BK357.out) hb); have n1_ := Aside0.mk (below_step (byB1 HB.out GE357.out) hb); clear BK357 HB; have BK357 := n0_; have HB := n1_; clear n0_ n1_; (try clear hb); (try clear hb2); (try clear hk); (try clear hi)))
     have n0_ := Aside0.mk (blk_drew BK357.out); have n1_ := Aside0.mk (below_drew1 HB.out); clear BK357 HB; have BK357 := n0_; have HB := n1_; clear n0_ n1_
     refine start_ (n := 33) (S := fun w' => w'.cell? ⟨gb357, 0, none⟩ = some (.slice A0_0 l0_0.length c0_0) ∧ w'.cell? ⟨gb357, 1, none⟩ = some (.slice A0_1 l0_1.length c0_1) ∧ w'.cell? ⟨gb357, 2, none⟩ = some (.slice A0_2 l0_2.length c0_2)) (ds := []) (bits 33 0) (by kernel_rfl) rfl rfl ⟨(blk_cell BK357.out 0).trans rfl, (blk_cell BK357.out 1).trans rfl, (blk_cell BK357.out 2).trans rfl⟩ (fun hHeld => ?_); refine with_tabW mapmakerlaw47_TurnsAllows.tab3 mapmakerlaw47_TurnsAllows.bits3 (fun HT_ HW_ => ?_)
     generalize w30.drew = w31 at BK357 HB hHeld ⊢
     refine q_ 1 15 HT_ ?_; refine q_ 2 16 HT_ ?_; refine q_ 3 17 HT_ ?_; refine q_ 6 20 HT_ ?_; refine q_ 7 21 HT_ ?_; refine q_ 8 22 HT_ ?_; refine r3_ 0 14 HT_ HW_ hHeld ?_; refine r3_ 5 19 HT_ HW_ hHeld ?_; refine one_ (i := 4) (N := some 18) (bits 33 511) rfl rfl (one_of HT_.out (by kernel_rfl)) (by decide) (fun K hK => ?_)
     refine goes_ Try.func14 (by kernel_rfl) rfl #[.agg #[.slice A0_0 l0_0.length c0_0, .slice A0_1 l0_1.length c0_1, .slice A0_2 l0_2.length c0_2], .slice A1 l1.length c1, .int .i64 a2, .int .i64 a3] (by rfl) rfl rfl byL ?_
     with_reducible refine (turns_Allowed.calls _ _ l0_0 _ _ l0_1 _ _ l0_2 _ _ l1 a2 a3 t360 _ ?side1 ?side2 ?side3 ?side4 ?side5 ?side6 ?side7 ?side8 A7.out).mono ?_
     (case side1 => exact byC (Kd.C_below HR0_0.out HB.out))
     (case side2 => exact HC0_0.out)
     (case side3 => exact byC (Kd.C_below HR0_1.out HB.out))
     (case side4 => exact HC0_1.out)
     (case side5 => exact byC (Kd.C_below HR0_2.out HB.out))
     (case side6 => exact HC0_2.out)
     (case side7 => exact byC (Kd.C_below HR1.out HB.out))
     (case side8 => exact HC1.out)
     rintro e w32 ⟨rfl, hb⟩
     refine ⟨_, rfl, ?_⟩
     have n0_ := Aside0.mk (blk_below (g := gb357) (o := .cells #[.slice A0_0 l0_0.length c0_0, .slice A0_1 l0_1.length c0_1, .slice A0_2 l0_2.length c0_2] 37 (0, 0)) (byK BK357.out) hb); have n1_ := Aside0.mk (below_step (byB1 HB.out GE357.out) hb); clear BK357 HB; have BK357 := n0_; have HB := n1_; clear n0_ n1_
     (try clear hb)
     (try clear hb2)
     (try clear hk)
     (try clear hi)
     refine hK.out _ _ ⟨(blk_cell BK357.out 0).trans rfl, (blk_cell BK357.out 1).trans rfl, (blk_cell BK357.out 2).trans rfl⟩ (fun hHeld => ?_)
     clear hK K
     refine norm_ (a' := ?_) ?_ ?_
     rotate_left
     ·show Act.put _ (some 18) _ = _
      simp only [putW]; rfl
     refine one_ (i := 9) (N := some 23) (bits 33 1023) rfl rfl (one_of HT_.out (by kernel_rfl)) (by decide) (fun K hK => ?_)
     refine goes_ Try.func15 (by kernel_rfl) rfl #[.agg #[.slice A0_0 l0_0.length c0_0, .slice A0_1 l0_1.length c0_1, .slice A0_2 l0_2.length c0_2], .slice A1 l1.length c1, .int .i64 a2, .int .i64 a3] (by rfl) rfl rfl byL ?_
     with_reducible refine (mapmakerref47_Allowed.calls _ _ l0_0 _ _ l0_1 _ _ l0_2 _ _ l1 a2 a3 t361 _ ?side1 ?side2 ?side3 ?side4 ?side5 ?side6 ?side7 ?side8 A8.out).mono ?_
     (case side1 => exact byC (Kd.C_below HR0_0.out HB.out))
     (case side2 => exact HC0_0.out)
     (case side3 => exact byC (Kd.C_below HR0_1.out HB.out))
     (case side4 => exact HC0_1.out)
     (case side5 => exact byC (Kd.C_below HR0_2.out HB.out))
     (case side6 => exact HC0_2.out)
     (case side7 => exact byC (Kd.C_below HR1.out HB.out))
     (case side8 => exact HC1.out)
     rintro e w33 ⟨rfl, hb⟩
     refine ⟨_, rfl, ?_⟩
     have n0_ := Aside0.mk (blk_below (g := gb357) (o := .cells #[.slice A0_0 l0_0.length c0_0, .slice A0_1 l0_1.length c0_1, .slice A0_2 l0_2.length c0_2] 37 (0, 0)) (byK BK357.out) hb); have n1_ := Aside0.mk (below_step (byB1 HB.out GE357.out) hb); clear BK357 HB; have BK357 := n0_; have HB := n1_; clear n0_ n1_
     (try clear hb)
     (try clear hb2)
     (try clear hk)
     (try clear hi)
     refine hK.out _ _ ⟨(blk_cell BK357.out 0).trans rfl, (blk_cell BK357.out 1).trans rfl, (blk_cell BK357.out 2).trans rfl⟩ (fun hHeld => ?_)
     clear hK K
     refine norm_ (a' := ?_) ?_ ?_
     rotate_left
     ·show Act.put _ (some 23) _ = _
      simp only [putW]; rfl
     refine q_ 10 24 HT_ ?_; refine q_ 11 25 HT_ ?_; refine q_ 13 27 HT_ ?_; refine q_ 16 30 HT_ ?_; refine r3_ 12 26 HT_ HW_ hHeld ?_; refine r3_ 15 29 HT_ HW_ hHeld ?_; refine one_ (i := 14) (N := some 28) (bits 33 131071) rfl rfl (one_of HT_.out (by kernel_rfl)) (by decide) (fun K hK => ?_)
     refine goes_ Try.func16 (by kernel_rfl) rfl #[.agg #[.slice A0_0 l0_0.length c0_0, .slice A0_1 l0_1.length c0_1, .slice A0_2 l0_2.length c0_2], .int .i64 a2] (by rfl) rfl rfl byL ?_
     with_reducible refine (turns_Source.calls k _ _ l0_0 _ _ l0_1 _ _ l0_2 a2 t362 _ ?side1 ?side2 ?side3 ?side4 ?side5 ?side6 A10.out).mono ?_
     (case side1 => exact byC (Kd.C_below HR0_0.out HB.out))
     (case side2 => exact HC0_0.out)
     (case side3 => exact byC (Kd.C_below HR0_1.out HB.out))
     (case side4 => exact HC0_1.out)
     (case side5 => exact byC (Kd.C_below HR0_2.out HB.out))
     (case side6 => exact HC0_2.out)
     rintro e w34 ⟨rfl, hb⟩
     refine ⟨_, rfl, ?_⟩
     have n0_ := Aside0.mk (blk_below (g := gb357) (o := .cells #[.slice A0_0 l0_0.length c0_0, .slice A0_1 l0_1.length c0_1, .slice A0_2 l0_2.length c0_2] 37 (0, 0)) (byK BK357.out) hb); have n1_ := Aside0.mk (below_step (byB1 HB.out GE357.out) hb); clear BK357 HB; have BK357 := n0_; have HB := n1_; clear n0_ n1_
     (try clear hb)
     (try clear hb2)
     (try clear hk)
     (try clear hi)
     refine hK.out _ _ ⟨(blk_cell BK357.out 0).trans rfl, (blk_cell BK357.out 1).trans rfl, (blk_cell BK357.out 2).trans rfl⟩ (fun hHeld => ?_)
     clear hK K
     refine norm_ (a' := ?_) ?_ ?_
     rotate_left
     ·show Act.put _ (some 28) _ = _
      simp only [putW]; rfl
     refine one_ (i := 17) (N := some 31) (bits 33 262143) rfl rfl (one_of HT_.out (by kernel_rfl)) (by decide) (fun K hK => ?_)
     refine goes_ Try.func17 (by kernel_rfl) rfl #[.agg #[.slice A0_0 l0_0.length c0_0, .slice A0_1 l0_1.length c0_1, .slice A0_2 l0_2.length c0_2], .int .i64 a2] (by rfl) rfl rfl byL ?_
     with_reducible refine (mapmakerref47_Source.calls k _ _ l0_0 _ _ l0_1 _ _ l0_2 a2 t363 _ ?side1 ?side2 ?side3 ?side4 ?side5 ?side6 A11.out).mono ?_
     (case side1 => exact byC (Kd.C_below HR0_0.out HB.out))
     (case side2 => exact HC0_0.out)
     (case side3 => exact byC (Kd.C_below HR0_1.out HB.out))
     (case side4 => exact HC0_1.out)
     (case side5 => exact byC (Kd.C_below HR0_2.out HB.out))
     (case side6 => exact HC0_2.out)
     rintro e w35 ⟨rfl, hb⟩
     refine ⟨_, rfl, ?_⟩
     have n0_ := Aside0.mk (blk_below (g := gb357) (o := .cells #[.slice A0_0 l0_0.length c0_0, .slice A0_1 l0_1.length c0_1, .slice A0_2 l0_2.length c0_2] 37 (0, 0)) (byK BK357.out) hb); have n1_ := Aside0.mk (below_step (byB1 HB.out GE357.out) hb); clear BK357 HB; have BK357 := n0_; have HB := n1_; clear n0_ n1_
     (try clear hb)
     (try clear hb2)
     (try clear hk)
     (try clear hi)
     refine hK.out _ _ ⟨(blk_cell BK357.out 0).trans rfl, (blk_cell BK357.out 1).trans rfl, (blk_cell BK357.out 2).trans rfl⟩ (fun hHeld => ?_)
     clear hK K
     refine norm_ (a' := ?_) ?_ ?_
     rotate_left
     ·show Act.put _ (some 31) _ = _
      simp only [putW]; rfl
     refine q_ 18 32 HT_ ?_; refine q_ 19 33 HT_ ?_; refine q_ 20 34 HT_ ?_; refine q_ 22 36 HT_ ?_; refine q_ 25 39 HT_ ?_; refine r3_ 21 35 HT_ HW_ hHeld ?_; refine r3_ 24 38 HT_ HW_ hHeld ?_; refine one_ (i := 23) (N := some 37) (bits 33 67108863) rfl rfl (one_of HT_.out (by kernel_rfl)) (by decide) (fun K hK => ?_)
     refine goes_ Try.func18 (by kernel_rfl) rfl #[.agg #[.slice A0_0 l0_0.length c0_0, .slice A0_1 l0_1.length c0_1, .slice A0_2 l0_2.length c0_2], .int .i64 a2] (by rfl) rfl rfl byL ?_
     with_reducible refine (turns_Target.calls k _ _ l0_0 _ _ l0_1 _ _ l0_2 a2 t364 _ ?side1 ?side2 ?side3 ?side4 ?side5 ?side6 A13.out).mono ?_
     (case side1 => exact byC (Kd.C_below HR0_0.out HB.out))
     (case side2 => exact HC0_0.out)
     (case side3 => exact byC (Kd.C_below HR0_1.out HB.out))
     (case side4 => exact HC0_1.out)
     (case side5 => exact byC (Kd.C_below HR0_2.out HB.out))
     (case side6 => exact HC0_2.out)
     rintro e w36 ⟨rfl, hb⟩
     refine ⟨_, rfl, ?_⟩
     have n0_ := Aside0.mk (blk_below (g := gb357) (o := .cells #[.slice A0_0 l0_0.length c0_0, .slice A0_1 l0_1.length c0_1, .slice A0_2 l0_2.length c0_2] 37 (0, 0)) (byK BK357.out) hb); have n1_ := Aside0.mk (below_step (byB1 HB.out GE357.out) hb); clear BK357 HB; have BK357 := n0_; have HB := n1_; clear n0_ n1_
     (try clear hb)
     (try clear hb2)
     (try clear hk)
     (try clear hi)
     refine hK.out _ _ ⟨(blk_cell BK357.out 0).trans rfl, (blk_cell BK357.out 1).trans rfl, (blk_cell BK357.out 2).trans rfl⟩ (fun hHeld => ?_)
     clear hK K
     refine norm_ (a' := ?_) ?_ ?_
     rotate_left
     ·show Act.put _ (some 37) _ = _
      simp only [putW]; rfl
     refine one_ (i := 26) (N := some 40) (bits 33 134217727) rfl rfl (one_of HT_.out (by kernel_rfl)) (by decide) (fun K hK => ?_)
     refine goes_ Try.func19 (by kernel_rfl) rfl #[.agg #[.slice A0_0 l0_0.length c0_0, .slice A0_1 l0_1.length c0_1, .slice A0_2 l0_2.length c0_2], .int .i64 a2] (by rfl) rfl rfl byL ?_
     with_reducible refine (mapmakerref47_Target.calls k _ _ l0_0 _ _ l0_1 _ _ l0_2 a2 t365 _ ?side1 ?side2 ?side3 ?side4 ?side5 ?side6 A14.out).mono ?_
     (case side1 => exact byC (Kd.C_below HR0_0.out HB.out))
     (case side2 => exact HC0_0.out)
     (case side3 => exact byC (Kd.C_below HR0_1.out HB.out))
     (case side4 => exact HC0_1.out)
     (case side5 => exact byC (Kd.C_below HR0_2.out HB.out))
     (case side6 => exact HC0_2.out)
     rintro e w37 ⟨rfl, hb⟩
     refine ⟨_, rfl, ?_⟩
     have n0_ := Aside0.mk (blk_below (g := gb357) (o := .cells #[.slice A0_0 l0_0.length c0_0, .slice A0_1 l0_1.length c0_1, .slice A0_2 l0_2.length c0_2] 37 (0, 0)) (byK BK357.out) hb); have n1_ := Aside0.mk (below_step (byB1 HB.out GE357.out) hb); clear BK357 HB; have BK357 := n0_; have HB := n1_; clear n0_ n1_
     (try clear hb)
     (try clear hb2)
     (try clear hk)
     (try clear hi)
     refine hK.out _ _ ⟨(blk_cell BK357.out 0).trans rfl, (blk_cell BK357.out 1).trans rfl, (blk_cell BK357.out 2).trans rfl⟩ (fun hHeld => ?_)
     clear hK K
     refine norm_ (a' := ?_) ?_ ?_
     rotate_left
     ·show Act.put _ (some 40) _ = _
      simp only [putW]; rfl
     refine q_ 27 41 HT_ ?_; refine q_ 28 42 HT_ ?_; refine q_ 29 43 HT_ ?_; refine qu_ 30 44 HT_ ?_; refine q_ 31 45 HT_ ?_; refine q_ 32 8 HT_ ?_
     refine done_ (done_of HT_.out (by kernel_rfl)) ?_
     try go_wp2
     go_ret
     exact ⟨byE, byB1 HB.out GE357.out⟩
   ·rw [if_neg c12] at H
    have c12b0 : (t362 == t363) = false := beq_eq_false_iff_ne.mpr c12
    have c12b1 : (t362 != t363) = true := bne_iff_ne.mpr c12
    obtain rfl := Option.some.inj H
    go_enter Try.func4, Try.ntmps4
    try go_wp2_with (first | ((with_reducible refine gate_dst (N := 4) rfl ?_); refine box_event ?hg (N := 4) ?hd (cs := #[.slice A0_0 l0_0.length c0_0, .slice A0_1 l0_1.length c0_1, .slice A0_2 l0_2.length c0_2]) (t := 37) ?hr ?_; (case hd => rfl); (case hg => rfl); (case hr => first | (go_simp; done) | (go_simp; rfl)); intro gb357 hg w38 hbox hb; have n0_ := Aside0.mk (below_step (byB HB.out) hb); have n1_ := Aside0.mk (hbox); have n2_ := Aside0.mk ((by rw [hg]; exact (below_size (byB HB.out)) : w.heap.size ≤ gb357)); have n3_ := Aside0.mk ((by rw [hg]; exact (below_size (byB HB.out)) : w.heap.size ≤ gb357)); clear HB; have HB := n0_; have BK357 := n1_; have GW357 := n2_; have GE357 := n3_; clear n0_ n1_ n2_ n3_ hb hbox hg; have hcz39_0 : w38.cell? ⟨gb357, 0, none⟩ = some (.slice A0_0 l0_0.length c0_0) := (blk_cell BK357.out 0).trans rfl; have hcz39_1 : w38.cell? ⟨gb357, 1, none⟩ = some (.slice A0_1 l0_1.length c0_1) := (blk_cell BK357.out 1).trans rfl; have hcz39_2 : w38.cell? ⟨gb357, 2, none⟩ = some (.slice A0_2 l0_2.length c0_2) := (blk_cell BK357.out 2).trans rfl; have hfz39_0 := blk_frozen BK357.out 0; have hfz39_1 := blk_frozen BK357.out 1; have hfz39_2 := blk_frozen BK357.out 2) | ((with_reducible refine gate_callee (f := 13) rfl ?_); refine goesL_ (some 11) rfl rfl Try.func13 (by kernel_rfl) rfl #[.agg #[.slice A0_0 l0_0.length c0_0, .slice A0_1 l0_1.length c0_1, .slice A0_2 l0_2.length c0_2], .slice A1 l1.length c1] rfl byL ?_; (with_reducible refine (mapmakerlaw47_few.calls k _ _ l0_0 _ _ l0_1 _ _ l0_2 _ _ l1 true _ ?side1 ?side2 ?side3 ?side4 ?side5 ?side6 ?side7 ?side8 A5.out).mono ?_); (case side1 => exact byC (Kd.C_below HR0_0.out HB.out)); (case side2 => exact HC0_0.out); (case side3 => exact byC (Kd.C_below HR0_1.out HB.out)); (case side4 => exact HC0_1.out); (case side5 => exact byC (Kd.C_below HR0_2.out HB.out)); (case side6 => exact HC0_2.out); (case side7 => exact byC (Kd.C_below HR1.out HB.out)); (case side8 => exact HC1.out); rintro e w40 ⟨rfl, hb⟩; refine ⟨_, rfl, ?_⟩; have n0_ := Aside0.mk (blk_below (g := gb357) (o := .cells #[.slice A0_0 l0_0.length c0_0, .slice A0_1 l0_1.length c0_1, .slice A0_2 l0_2.length c0_2] 37 (0, 0)) (byK BK357.out) hb); have n1_ := Aside0.mk (below_step (byB1 HB.out GE357.out) hb); clear BK357 HB; have BK357 := n0_; have HB := n1_; clear n0_ n1_; (try clear hb); (try clear hb2); (try clear hk); (try clear hi)))
    have n0_ := Aside0.mk (blk_drew BK357.out); have n1_ := Aside0.mk (below_drew1 HB.out); clear BK357 HB; have BK357 := n0_; have HB := n1_; clear n0_ n1_
    refine start_ (n := 33) (S := fun w' => w'.cell? ⟨gb357, 0, none⟩ = some (.slice A0_0 l0_0.length c0_0) ∧ w'.cell? ⟨gb357, 1, none⟩ = some (.slice A0_1 l0_1.length c0_1) ∧ w'.cell? ⟨gb357, 2, none⟩ = some (.slice A0_2 l0_2.length c0_2)) (ds := []) (bits 33 0) (by kernel_rfl) rfl rfl ⟨(blk_cell BK357.out 0).trans rfl, (blk_cell BK357.out 1).trans rfl, (blk_cell BK357.out 2).trans rfl⟩ (fun hHeld => ?_); refine with_tabW mapmakerlaw47_TurnsAllows.tab3 mapmakerlaw47_TurnsAllows.bits3 (fun HT_ HW_ => ?_)
    generalize w40.drew = w41 at BK357 HB hHeld ⊢
    refine q_ 1 15 HT_ ?_; refine q_ 2 16 HT_ ?_; refine q_ 3 17 HT_ ?_; refine q_ 6 20 HT_ ?_; refine q_ 7 21 HT_ ?_; refine q_ 8 22 HT_ ?_; refine r3_ 0 14 HT_ HW_ hHeld ?_; refine r3_ 5 19 HT_ HW_ hHeld ?_; refine one_ (i := 4) (N := some 18) (bits 33 511) rfl rfl (one_of HT_.out (by kernel_rfl)) (by decide) (fun K hK => ?_)
    refine goes_ Try.func14 (by kernel_rfl) rfl #[.agg #[.slice A0_0 l0_0.length c0_0, .slice A0_1 l0_1.length c0_1, .slice A0_2 l0_2.length c0_2], .slice A1 l1.length c1, .int .i64 a2, .int .i64 a3] (by rfl) rfl rfl byL ?_
    with_reducible refine (turns_Allowed.calls _ _ l0_0 _ _ l0_1 _ _ l0_2 _ _ l1 a2 a3 t360 _ ?side1 ?side2 ?side3 ?side4 ?side5 ?side6 ?side7 ?side8 A7.out).mono ?_
    (case side1 => exact byC (Kd.C_below HR0_0.out HB.out))
    (case side2 => exact HC0_0.out)
    (case side3 => exact byC (Kd.C_below HR0_1.out HB.out))
    (case side4 => exact HC0_1.out)
    (case side5 => exact byC (Kd.C_below HR0_2.out HB.out))
    (case side6 => exact HC0_2.out)
    (case side7 => exact byC (Kd.C_below HR1.out HB.out))
    (case side8 => exact HC1.out)
    rintro e w42 ⟨rfl, hb⟩
    refine ⟨_, rfl, ?_⟩
    have n0_ := Aside0.mk (blk_below (g := gb357) (o := .cells #[.slice A0_0 l0_0.length c0_0, .slice A0_1 l0_1.length c0_1, .slice A0_2 l0_2.length c0_2] 37 (0, 0)) (byK BK357.out) hb); have n1_ := Aside0.mk (below_step (byB1 HB.out GE357.out) hb); clear BK357 HB; have BK357 := n0_; have HB := n1_; clear n0_ n1_
    (try clear hb)
    (try clear hb2)
    (try clear hk)
    (try clear hi)
    refine hK.out _ _ ⟨(blk_cell BK357.out 0).trans rfl, (blk_cell BK357.out 1).trans rfl, (blk_cell BK357.out 2).trans rfl⟩ (fun hHeld => ?_)
    clear hK K
    refine norm_ (a' := ?_) ?_ ?_
    rotate_left
    ·show Act.put _ (some 18) _ = _
     simp only [putW]; rfl
    refine one_ (i := 9) (N := some 23) (bits 33 1023) rfl rfl (one_of HT_.out (by kernel_rfl)) (by decide) (fun K hK => ?_)
    refine goes_ Try.func15 (by kernel_rfl) rfl #[.agg #[.slice A0_0 l0_0.length c0_0, .slice A0_1 l0_1.length c0_1, .slice A0_2 l0_2.length c0_2], .slice A1 l1.length c1, .int .i64 a2, .int .i64 a3] (by rfl) rfl rfl byL ?_
    with_reducible refine (mapmakerref47_Allowed.calls _ _ l0_0 _ _ l0_1 _ _ l0_2 _ _ l1 a2 a3 t361 _ ?side1 ?side2 ?side3 ?side4 ?side5 ?side6 ?side7 ?side8 A8.out).mono ?_
    (case side1 => exact byC (Kd.C_below HR0_0.out HB.out))
    (case side2 => exact HC0_0.out)
    (case side3 => exact byC (Kd.C_below HR0_1.out HB.out))
    (case side4 => exact HC0_1.out)
    (case side5 => exact byC (Kd.C_below HR0_2.out HB.out))
    (case side6 => exact HC0_2.out)
    (case side7 => exact byC (Kd.C_below HR1.out HB.out))
    (case side8 => exact HC1.out)
    rintro e w43 ⟨rfl, hb⟩
    refine ⟨_, rfl, ?_⟩
    have n0_ := Aside0.mk (blk_below (g := gb357) (o := .cells #[.slice A0_0 l0_0.length c0_0, .slice A0_1 l0_1.length c0_1, .slice A0_2 l0_2.length c0_2] 37 (0, 0)) (byK BK357.out) hb); have n1_ := Aside0.mk (below_step (byB1 HB.out GE357.out) hb); clear BK357 HB; have BK357 := n0_; have HB := n1_; clear n0_ n1_
    (try clear hb)
    (try clear hb2)
    (try clear hk)
    (try clear hi)
    refine hK.out _ _ ⟨(blk_cell BK357.out 0).trans rfl, (blk_cell BK357.out 1).trans rfl, (blk_cell BK357.out 2).trans rfl⟩ (fun hHeld => ?_)
    clear hK K
    refine norm_ (a' := ?_) ?_ ?_
    rotate_left
    ·show Act.put _ (some 23) _ = _
     simp only [putW]; rfl
    refine q_ 10 24 HT_ ?_; refine q_ 11 25 HT_ ?_; refine q_ 13 27 HT_ ?_; refine q_ 16 30 HT_ ?_; refine r3_ 12 26 HT_ HW_ hHeld ?_; refine r3_ 15 29 HT_ HW_ hHeld ?_; refine one_ (i := 14) (N := some 28) (bits 33 131071) rfl rfl (one_of HT_.out (by kernel_rfl)) (by decide) (fun K hK => ?_)
    refine goes_ Try.func16 (by kernel_rfl) rfl #[.agg #[.slice A0_0 l0_0.length c0_0, .slice A0_1 l0_1.length c0_1, .slice A0_2 l0_2.length c0_2], .int .i64 a2] (by rfl) rfl rfl byL ?_
    with_reducible refine (turns_Source.calls k _ _ l0_0 _ _ l0_1 _ _ l0_2 a2 t362 _ ?side1 ?side2 ?side3 ?side4 ?side5 ?side6 A10.out).mono ?_
    (case side1 => exact byC (Kd.C_below HR0_0.out HB.out))
    (case side2 => exact HC0_0.out)
    (case side3 => exact byC (Kd.C_below HR0_1.out HB.out))
    (case side4 => exact HC0_1.out)
    (case side5 => exact byC (Kd.C_below HR0_2.out HB.out))
    (case side6 => exact HC0_2.out)
    rintro e w44 ⟨rfl, hb⟩
    refine ⟨_, rfl, ?_⟩
    have n0_ := Aside0.mk (blk_below (g := gb357) (o := .cells #[.slice A0_0 l0_0.length c0_0, .slice A0_1 l0_1.length c0_1, .slice A0_2 l0_2.length c0_2] 37 (0, 0)) (byK BK357.out) hb); have n1_ := Aside0.mk (below_step (byB1 HB.out GE357.out) hb); clear BK357 HB; have BK357 := n0_; have HB := n1_; clear n0_ n1_
    (try clear hb)
    (try clear hb2)
    (try clear hk)
    (try clear hi)
    refine hK.out _ _ ⟨(blk_cell BK357.out 0).trans rfl, (blk_cell BK357.out 1).trans rfl, (blk_cell BK357.out 2).trans rfl⟩ (fun hHeld => ?_)
    clear hK K
    refine norm_ (a' := ?_) ?_ ?_
    rotate_left
    ·show Act.put _ (some 28) _ = _
     simp only [putW]; rfl
    refine one_ (i := 17) (N := some 31) (bits 33 262143) rfl rfl (one_of HT_.out (by kernel_rfl)) (by decide) (fun K hK => ?_)
    refine goes_ Try.func17 (by kernel_rfl) rfl #[.agg #[.slice A0_0 l0_0.length c0_0, .slice A0_1 l0_1.length c0_1, .slice A0_2 l0_2.length c0_2], .int .i64 a2] (by rfl) rfl rfl byL ?_
    with_reducible refine (mapmakerref47_Source.calls k _ _ l0_0 _ _ l0_1 _ _ l0_2 a2 t363 _ ?side1 ?side2 ?side3 ?side4 ?side5 ?side6 A11.out).mono ?_
    (case side1 => exact byC (Kd.C_below HR0_0.out HB.out))
    (case side2 => exact HC0_0.out)
    (case side3 => exact byC (Kd.C_below HR0_1.out HB.out))
    (case side4 => exact HC0_1.out)
    (case side5 => exact byC (Kd.C_below HR0_2.out HB.out))
    (case side6 => exact HC0_2.out)
    rintro e w45 ⟨rfl, hb⟩
    refine ⟨_, rfl, ?_⟩
    have n0_ := Aside0.mk (blk_below (g := gb357) (o := .cells #[.slice A0_0 l0_0.length c0_0, .slice A0_1 l0_1.length c0_1, .slice A0_2 l0_2.length c0_2] 37 (0, 0)) (byK BK357.out) hb); have n1_ := Aside0.mk (below_step (byB1 HB.out GE357.out) hb); clear BK357 HB; have BK357 := n0_; have HB := n1_; clear n0_ n1_
    (try clear hb)
    (try clear hb2)
    (try clear hk)
    (try clear hi)
    refine hK.out _ _ ⟨(blk_cell BK357.out 0).trans rfl, (blk_cell BK357.out 1).trans rfl, (blk_cell BK357.out 2).trans rfl⟩ (fun hHeld => ?_)
    clear hK K
    refine norm_ (a' := ?_) ?_ ?_
    rotate_left
    ·show Act.put _ (some 31) _ = _
     simp only [putW]; rfl
    refine q_ 18 32 HT_ ?_; refine q_ 19 33 HT_ ?_; refine q_ 20 34 HT_ ?_; refine qu_ 21 35 HT_ ?_; refine qu_ 22 36 HT_ ?_; refine qu_ 23 37 HT_ ?_; refine qu_ 24 38 HT_ ?_; refine qu_ 25 39 HT_ ?_; refine qu_ 26 40 HT_ ?_; refine qu_ 27 41 HT_ ?_; refine q_ 28 42 HT_ ?_; refine q_ 29 43 HT_ ?_; refine qu_ 30 44 HT_ ?_; refine q_ 31 45 HT_ ?_; refine q_ 32 8 HT_ ?_
    refine done_ (done_of HT_.out (by kernel_rfl)) ?_
    try go_wp2
    go_ret
    exact ⟨byE, byB1 HB.out GE357.out⟩
  ·rw [if_neg c9] at H
   have c9b0 : (t360 == t361) = false := by simpa using c9
   (try (have c9b1 : decide (t360 = t361) = false := by simpa using c9))
   (try (have c9b2 : (t360 == t361) = false := by simpa using c9))
   (try (have c9b3 : ¬ (t360 = t361) := by simpa using c9))
   clear c9
   obtain rfl := Option.some.inj H
   go_enter Try.func4, Try.ntmps4
   try go_wp2_with (first | ((with_reducible refine gate_dst (N := 4) rfl ?_); refine box_event ?hg (N := 4) ?hd (cs := #[.slice A0_0 l0_0.length c0_0, .slice A0_1 l0_1.length c0_1, .slice A0_2 l0_2.length c0_2]) (t := 37) ?hr ?_; (case hd => rfl); (case hg => rfl); (case hr => first | (go_simp; done) | (go_simp; rfl)); intro gb357 hg w46 hbox hb; have n0_ := Aside0.mk (below_step (byB HB.out) hb); have n1_ := Aside0.mk (hbox); have n2_ := Aside0.mk ((by rw [hg]; exact (below_size (byB HB.out)) : w.heap.size ≤ gb357)); have n3_ := Aside0.mk ((by rw [hg]; exact (below_size (byB HB.out)) : w.heap.size ≤ gb357)); clear HB; have HB := n0_; have BK357 := n1_; have GW357 := n2_; have GE357 := n3_; clear n0_ n1_ n2_ n3_ hb hbox hg; have hcz47_0 : w46.cell? ⟨gb357, 0, none⟩ = some (.slice A0_0 l0_0.length c0_0) := (blk_cell BK357.out 0).trans rfl; have hcz47_1 : w46.cell? ⟨gb357, 1, none⟩ = some (.slice A0_1 l0_1.length c0_1) := (blk_cell BK357.out 1).trans rfl; have hcz47_2 : w46.cell? ⟨gb357, 2, none⟩ = some (.slice A0_2 l0_2.length c0_2) := (blk_cell BK357.out 2).trans rfl; have hfz47_0 := blk_frozen BK357.out 0; have hfz47_1 := blk_frozen BK357.out 1; have hfz47_2 := blk_frozen BK357.out 2) | ((with_reducible refine gate_callee (f := 13) rfl ?_); refine goesL_ (some 11) rfl rfl Try.func13 (by kernel_rfl) rfl #[.agg #[.slice A0_0 l0_0.length c0_0, .slice A0_1 l0_1.length c0_1, .slice A0_2 l0_2.length c0_2], .slice A1 l1.length c1] rfl byL ?_; (with_reducible refine (mapmakerlaw47_few.calls k _ _ l0_0 _ _ l0_1 _ _ l0_2 _ _ l1 true _ ?side1 ?side2 ?side3 ?side4 ?side5 ?side6 ?side7 ?side8 A5.out).mono ?_); (case side1 => exact byC (Kd.C_below HR0_0.out HB.out)); (case side2 => exact HC0_0.out); (case side3 => exact byC (Kd.C_below HR0_1.out HB.out)); (case side4 => exact HC0_1.out); (case side5 => exact byC (Kd.C_below HR0_2.out HB.out)); (case side6 => exact HC0_2.out); (case side7 => exact byC (Kd.C_below HR1.out HB.out)); (case side8 => exact HC1.out); rintro e w48 ⟨rfl, hb⟩; refine ⟨_, rfl, ?_⟩; have n0_ := Aside0.mk (blk_below (g := gb357) (o := .cells #[.slice A0_0 l0_0.length c0_0, .slice A0_1 l0_1.length c0_1, .slice A0_2 l0_2.length c0_2] 37 (0, 0)) (byK BK357.out) hb); have n1_ := Aside0.mk (below_step (byB1 HB.out GE357.out) hb); clear BK357 HB; have BK357 := n0_; have HB := n1_; clear n0_ n1_; (try clear hb); (try clear hb2); (try clear hk); (try clear hi)))
   have n0_ := Aside0.mk (blk_drew BK357.out); have n1_ := Aside0.mk (below_drew1 HB.out); clear BK357 HB; have BK357 := n0_; have HB := n1_; clear n0_ n1_
   refine start_ (n := 33) (S := fun w' => w'.cell? ⟨gb357, 0, none⟩ = some (.slice A0_0 l0_0.length c0_0) ∧ w'.cell? ⟨gb357, 1, none⟩ = some (.slice A0_1 l0_1.length c0_1) ∧ w'.cell? ⟨gb357, 2, none⟩ = some (.slice A0_2 l0_2.length c0_2)) (ds := []) (bits 33 0) (by kernel_rfl) rfl rfl ⟨(blk_cell BK357.out 0).trans rfl, (blk_cell BK357.out 1).trans rfl, (blk_cell BK357.out 2).trans rfl⟩ (fun hHeld => ?_); refine with_tabW mapmakerlaw47_TurnsAllows.tab3 mapmakerlaw47_TurnsAllows.bits3 (fun HT_ HW_ => ?_)
   generalize w48.drew = w49 at BK357 HB hHeld ⊢
   refine q_ 1 15 HT_ ?_; refine q_ 2 16 HT_ ?_; refine q_ 3 17 HT_ ?_; refine q_ 6 20 HT_ ?_; refine q_ 7 21 HT_ ?_; refine q_ 8 22 HT_ ?_; refine r3_ 0 14 HT_ HW_ hHeld ?_; refine r3_ 5 19 HT_ HW_ hHeld ?_; refine one_ (i := 4) (N := some 18) (bits 33 511) rfl rfl (one_of HT_.out (by kernel_rfl)) (by decide) (fun K hK => ?_)
   refine goes_ Try.func14 (by kernel_rfl) rfl #[.agg #[.slice A0_0 l0_0.length c0_0, .slice A0_1 l0_1.length c0_1, .slice A0_2 l0_2.length c0_2], .slice A1 l1.length c1, .int .i64 a2, .int .i64 a3] (by rfl) rfl rfl byL ?_
   with_reducible refine (turns_Allowed.calls _ _ l0_0 _ _ l0_1 _ _ l0_2 _ _ l1 a2 a3 t360 _ ?side1 ?side2 ?side3 ?side4 ?side5 ?side6 ?side7 ?side8 A7.out).mono ?_
   (case side1 => exact byC (Kd.C_below HR0_0.out HB.out))
   (case side2 => exact HC0_0.out)
   (case side3 => exact byC (Kd.C_below HR0_1.out HB.out))
   (case side4 => exact HC0_1.out)
   (case side5 => exact byC (Kd.C_below HR0_2.out HB.out))
   (case side6 => exact HC0_2.out)
   (case side7 => exact byC (Kd.C_below HR1.out HB.out))
   (case side8 => exact HC1.out)
   rintro e w50 ⟨rfl, hb⟩
   refine ⟨_, rfl, ?_⟩
   have n0_ := Aside0.mk (blk_below (g := gb357) (o := .cells #[.slice A0_0 l0_0.length c0_0, .slice A0_1 l0_1.length c0_1, .slice A0_2 l0_2.length c0_2] 37 (0, 0)) (byK BK357.out) hb); have n1_ := Aside0.mk (below_step (byB1 HB.out GE357.out) hb); clear BK357 HB; have BK357 := n0_; have HB := n1_; clear n0_ n1_
   (try clear hb)
   (try clear hb2)
   (try clear hk)
   (try clear hi)
   refine hK.out _ _ ⟨(blk_cell BK357.out 0).trans rfl, (blk_cell BK357.out 1).trans rfl, (blk_cell BK357.out 2).trans rfl⟩ (fun hHeld => ?_)
   clear hK K
   refine norm_ (a' := ?_) ?_ ?_
   rotate_left
   ·show Act.put _ (some 18) _ = _
    simp only [putW]; rfl
   refine one_ (i := 9) (N := some 23) (bits 33 1023) rfl rfl (one_of HT_.out (by kernel_rfl)) (by decide) (fun K hK => ?_)
   refine goes_ Try.func15 (by kernel_rfl) rfl #[.agg #[.slice A0_0 l0_0.length c0_0, .slice A0_1 l0_1.length c0_1, .slice A0_2 l0_2.length c0_2], .slice A1 l1.length c1, .int .i64 a2, .int .i64 a3] (by rfl) rfl rfl byL ?_
   with_reducible refine (mapmakerref47_Allowed.calls _ _ l0_0 _ _ l0_1 _ _ l0_2 _ _ l1 a2 a3 t361 _ ?side1 ?side2 ?side3 ?side4 ?side5 ?side6 ?side7 ?side8 A8.out).mono ?_
   (case side1 => exact byC (Kd.C_below HR0_0.out HB.out))
   (case side2 => exact HC0_0.out)
   (case side3 => exact byC (Kd.C_below HR0_1.out HB.out))
   (case side4 => exact HC0_1.out)
   (case side5 => exact byC (Kd.C_below HR0_2.out HB.out))
   (case side6 => exact HC0_2.out)
   (case side7 => exact byC (Kd.C_below HR1.out HB.out))
   (case side8 => exact HC1.out)
   rintro e w51 ⟨rfl, hb⟩
   refine ⟨_, rfl, ?_⟩
   have n0_ := Aside0.mk (blk_below (g := gb357) (o := .cells #[.slice A0_0 l0_0.length c0_0, .slice A0_1 l0_1.length c0_1, .slice A0_2 l0_2.length c0_2] 37 (0, 0)) (byK BK357.out) hb); have n1_ := Aside0.mk (below_step (byB1 HB.out GE357.out) hb); clear BK357 HB; have BK357 := n0_; have HB := n1_; clear n0_ n1_
   (try clear hb)
   (try clear hb2)
   (try clear hk)
   (try clear hi)
   refine hK.out _ _ ⟨(blk_cell BK357.out 0).trans rfl, (blk_cell BK357.out 1).trans rfl, (blk_cell BK357.out 2).trans rfl⟩ (fun hHeld => ?_)
   clear hK K
   refine norm_ (a' := ?_) ?_ ?_
   rotate_left
   ·show Act.put _ (some 23) _ = _
    simp only [putW]; rfl
   refine q_ 10 24 HT_ ?_; refine q_ 11 25 HT_ ?_; refine qu_ 12 26 HT_ ?_; refine qu_ 13 27 HT_ ?_; refine qu_ 14 28 HT_ ?_; refine qu_ 15 29 HT_ ?_; refine qu_ 16 30 HT_ ?_; refine qu_ 17 31 HT_ ?_; refine qu_ 18 32 HT_ ?_; refine q_ 19 33 HT_ ?_; refine q_ 20 34 HT_ ?_; refine qu_ 21 35 HT_ ?_; refine qu_ 22 36 HT_ ?_; refine qu_ 23 37 HT_ ?_; refine qu_ 24 38 HT_ ?_; refine qu_ 25 39 HT_ ?_; refine qu_ 26 40 HT_ ?_; refine qu_ 27 41 HT_ ?_; refine q_ 28 42 HT_ ?_; refine q_ 29 43 HT_ ?_; refine qu_ 30 44 HT_ ?_; refine q_ 31 45 HT_ ?_; refine q_ 32 8 HT_ ?_
   refine done_ (done_of HT_.out (by kernel_rfl)) ?_
   try go_wp2
   go_ret
   exact ⟨byE, byB1 HB.out GE357.out⟩
 ·replace c6 := Bool.eq_false_iff.mpr c6
  subst c6
  have H1 : ((mapmakerlaw47_lives.f).bind fun t359 => (some t359)) = some r := by rw [if_neg (show ¬ (false = true) by decide)] at H; exact H
  clear H; have H := H1; clear H1
  replace H := Option.bind_eq_some_iff.mp H
  obtain ⟨t359, A520, H⟩ := H
  replace H : (some t359) = some r := H
  have A52 := Aside0.mk A520; clear A520
  obtain rfl := Option.some.inj H
  go_enter Try.func4, Try.ntmps4
  go_wp2_with (first | ((with_reducible refine gate_dst (N := 4) rfl ?_); refine box_event ?hg (N := 4) ?hd (cs := #[.slice A0_0 l0_0.length c0_0, .slice A0_1 l0_1.length c0_1, .slice A0_2 l0_2.length c0_2]) (t := 37) ?hr ?_; (case hd => rfl); (case hg => rfl); (case hr => first | (go_simp; done) | (go_simp; rfl)); intro gb357 hg w53 hbox hb; have n0_ := Aside0.mk (below_step (byB HB.out) hb); have n1_ := Aside0.mk (hbox); have n2_ := Aside0.mk ((by rw [hg]; exact (below_size (byB HB.out)) : w.heap.size ≤ gb357)); have n3_ := Aside0.mk ((by rw [hg]; exact (below_size (byB HB.out)) : w.heap.size ≤ gb357)); clear HB; have HB := n0_; have BK357 := n1_; have GW357 := n2_; have GE357 := n3_; clear n0_ n1_ n2_ n3_ hb hbox hg; have hcz54_0 : w53.cell? ⟨gb357, 0, none⟩ = some (.slice A0_0 l0_0.length c0_0) := (blk_cell BK357.out 0).trans rfl; have hcz54_1 : w53.cell? ⟨gb357, 1, none⟩ = some (.slice A0_1 l0_1.length c0_1) := (blk_cell BK357.out 1).trans rfl; have hcz54_2 : w53.cell? ⟨gb357, 2, none⟩ = some (.slice A0_2 l0_2.length c0_2) := (blk_cell BK357.out 2).trans rfl; have hfz54_0 := blk_frozen BK357.out 0; have hfz54_1 := blk_frozen BK357.out 1; have hfz54_2 := blk_frozen BK357.out 2) | ((with_reducible refine gate_callee (f := 13) rfl ?_); refine goesL_ (some 11) rfl rfl Try.func13 (by kernel_rfl) rfl #[.agg #[.slice A0_0 l0_0.length c0_0, .slice A0_1 l0_1.length c0_1, .slice A0_2 l0_2.length c0_2], .slice A1 l1.length c1] rfl byL ?_; (with_reducible refine (mapmakerlaw47_few.calls k _ _ l0_0 _ _ l0_1 _ _ l0_2 _ _ l1 false _ ?side1 ?side2 ?side3 ?side4 ?side5 ?side6 ?side7 ?side8 A5.out).mono ?_); (case side1 => exact byC (Kd.C_below HR0_0.out HB.out)); (case side2 => exact HC0_0.out); (case side3 => exact byC (Kd.C_below HR0_1.out HB.out)); (case side4 => exact HC0_1.out); (case side5 => exact byC (Kd.C_below HR0_2.out HB.out)); (case side6 => exact HC0_2.out); (case side7 => exact byC (Kd.C_below HR1.out HB.out)); (case side8 => exact HC1.out); rintro e w55 ⟨rfl, hb⟩; refine ⟨_, rfl, ?_⟩; have n0_ := Aside0.mk (blk_below (g := gb357) (o := .cells #[.slice A0_0 l0_0.length c0_0, .slice A0_1 l0_1.length c0_1, .slice A0_2 l0_2.length c0_2] 37 (0, 0)) (byK BK357.out) hb); have n1_ := Aside0.mk (below_step (byB1 HB.out GE357.out) hb); clear BK357 HB; have BK357 := n0_; have HB := n1_; clear n0_ n1_; (try clear hb); (try clear hb2); (try clear hk); (try clear hi)) | ((with_reducible refine gate_callee (f := 9) rfl ?_); refine goesL_ (some 13) rfl rfl Try.func9 (by kernel_rfl) rfl #[] rfl byL ?_; (with_reducible refine (mapmakerlaw47_lives.calls  t359 _ A52.out).mono ?_); rintro e w56 ⟨rfl, hb⟩; refine ⟨_, rfl, ?_⟩; have n0_ := Aside0.mk (blk_below (g := gb357) (o := .cells #[.slice A0_0 l0_0.length c0_0, .slice A0_1 l0_1.length c0_1, .slice A0_2 l0_2.length c0_2] 37 (0, 0)) (byK BK357.out) hb); have n1_ := Aside0.mk (below_step (byB1 HB.out GE357.out) hb); clear BK357 HB; have BK357 := n0_; have HB := n1_; clear n0_ n1_; (try clear hb); (try clear hb2); (try clear hk); (try clear hi)))
  go_ret
  exact ⟨byE, byB1 HB.out GE357.out⟩
def mapmakerlaw47_TurnsAllows.Pure : Prop := ∀ (l0_0 : List Int) (l0_1 : List (S158)) (l0_2 : List (S58)) (l1 : List (S42)) (a2 : Int) (a3 : Int), (l0_0.length * 8 ≤ 140737488351232 ∧ ∀ y ∈ l0_0, Wf .i64 y) → (l0_1.length * 16 ≤ 140737488351232 ∧ ∀ y ∈ l0_1, g158 y) → (l0_2.length * 80 ≤ 140737488351232 ∧ ∀ y ∈ l0_2, g58 y) → (l1.length * 32 ≤ 140737488351232 ∧ ∀ y ∈ l1, g42 y) → (Wf .i64 a2) → (Wf .i64 a3) → ∃ k, mapmakerlaw47_TurnsAllows.f k l0_0 l0_1 l0_2 l1 a2 a3 = some true
end Go.Proofs.Ytaodlehnfjalnaa.Print
