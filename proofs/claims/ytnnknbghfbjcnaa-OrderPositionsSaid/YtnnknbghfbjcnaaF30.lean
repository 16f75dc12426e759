/- Written by a program of this claim's author (xprint.py, over the kit's print.py): the call of mapmaker/mapmakerref37.In comes to what the Lean function of its name says. -/
import Derived.Test.YtnnknbghfbjcnaaPrint0
import Derived.Test.YtnnknbghfbjcnaaF26
import Derived.Test.YtnnknbghfbjcnaaF28
import Derived.Test.YtnnknbghfbjcnaaHXShort
namespace Go.Proofs.Ytnnknbghfbjcnaa.Print
open Go.RowKit Go.Proofs.YtnnknbghfbjcnaaW.PrintWords Go.Proofs.YtnnknbghfbjcnaaW.PrintLast Go.Proofs.YtnnknbghfbjcnaaW.PrintMore
attribute [local go_sem] max2_int min2_int max_two min_two max_three min_three max_four min_four   -- for this text's walks alone
set_option linter.unusedVariables false
set_option linter.unusedSimpArgs false

/-! ### mapmakerref37_In: function 30 -/
def mapmakerref37_In.f (k : Nat) (a0_0 : Int) (l0_1 : List (S40)) : Option ((List (List Int))) := (mapmakerref37_Reverse.f k a0_0 l0_1).bind fun bt331 => ((mapmakerref37_Out.f k bt331.1 bt331.2).bind fun t335 => (some t335))
theorem mapmakerref37_In.mono : ∀ a0 a1 k, LeO (mapmakerref37_In.f k a0 a1) (mapmakerref37_In.f (k + 1) a0 a1) := by
 intro a0 a1 k
 unfold mapmakerref37_In.f
 repeat' first
   | (with_reducible exact mapmakerref37_Out.mono _ _ _)
   | (with_reducible exact mapmakerref37_Reverse.mono _ _ _)
   | (with_reducible exact LeO.refl _)
   | (with_reducible exact LeO.none _)
   | (with_reducible refine LeO.ite ?_ ?_)
   | (with_reducible refine LeO.bind ?_ (fun _ => ?_))
   | exact mapmakerref37_Out.mono _ _ _
   | exact mapmakerref37_Reverse.mono _ _ _
   | exact LeO.none _
   | refine LeO.ite ?_ ?_
   | refine LeO.bind ?_ (fun _ => ?_)
set_option maxHeartbeats 8000000 in
set_option maxRecDepth 100000 in
theorem mapmakerref37_In.calls (k : Nat) (a0_0 : Int) (A0_1 : Option Addr) (c0_1 : Nat) (l0_1 : List (S40)) (r : List (List Int)) (w : World) (hr0_1 : Kd.C k40 w A0_1 l0_1.length l0_1) (hc0_1 : l0_1.length ≤ c0_1) (h : mapmakerref37_In.f k a0_0 l0_1 = some r) :
  Calls Try.prog 30 #[.agg #[.int .i64 a0_0, .slice A0_1 l0_1.length c0_1]] w fun e w' => ∃ v0_ : Value, e = .returned (v0_) ∧ Kd.S (Kd.slice 3 (Kd.int .i64)) 31 w' w.heap.size (fun _ => True) v0_ r ∧ Below w.heap.size w w' := by
 have hu24 := Try.underlying24; have HR0_1 := Aside0.mk hr0_1; have HC0_1 := Aside0.mk hc0_1; clear hr0_1 hc0_1; have HB := Aside0.mk (Below.refl w.heap.size w)
 have H : ((mapmakerref37_Reverse.f k a0_0 l0_1).bind fun bt331 => ((mapmakerref37_Out.f k bt331.1 bt331.2).bind fun t335 => (some t335))) = some r := h
 clear h
 replace H := Option.bind_eq_some_iff.mp H
 obtain ⟨⟨t331, t332⟩, A20, H⟩ := H
 replace H : ((mapmakerref37_Out.f k t331 t332).bind fun t335 => (some t335)) = some r := H
 have A2 := Aside0.mk A20; clear A20
 replace H := Option.bind_eq_some_iff.mp H
 obtain ⟨t335, A30, H⟩ := H
 replace H : (some t335) = some r := H
 have A3 := Aside0.mk A30; clear A30
 obtain rfl := Option.some.inj H
 go_enter Try.func30, Try.ntmps30
 go_wp2_with (first | ((with_reducible refine gate_dst (N := 1) rfl ?_); refine box_event ?hg (N := 1) ?hd (cs := #[.int .i64 a0_0, .slice A0_1 l0_1.length c0_1]) (t := 24) ?hr ?_; (case hd => rfl); (case hg => rfl); (case hr => first | (go_simp; done) | (go_simp; rfl)); intro gb330 hg w4 hbox hb; have n0_ := Aside0.mk (below_step (byB HB.out) hb); have n1_ := Aside0.mk (hbox); have n2_ := Aside0.mk ((by rw [hg]; exact (below_size (byB HB.out)) : w.heap.size ≤ gb330)); have n3_ := Aside0.mk ((by rw [hg]; exact (below_size (byB HB.out)) : w.heap.size ≤ gb330)); clear HB; have HB := n0_; have BK330 := n1_; have GW330 := n2_; have GE330 := n3_; clear n0_ n1_ n2_ n3_ hb hbox hg; have hcz5_0 : w4.cell? ⟨gb330, 0, none⟩ = some (.int .i64 a0_0) := (blk_cell BK330.out 0).trans rfl; have hcz5_1 : w4.cell? ⟨gb330, 1, none⟩ = some (.slice A0_1 l0_1.length c0_1) := (blk_cell BK330.out 1).trans rfl; have hfz5_0 := blk_frozen BK330.out 0; have hfz5_1 := blk_frozen BK330.out 1) | ((with_reducible refine gate_callee (f := 26) rfl ?_); refine goesL_ (some 4) rfl rfl Try.func26 (by kernel_rfl) rfl #[.agg #[.int .i64 a0_0, .slice A0_1 l0_1.length c0_1]] rfl byL ?_; (with_reducible refine (mapmakerref37_Reverse.calls k a0_0 _ _ l0_1 t331 t332 _ ?side1 ?side2 A2.out).mono ?_); (case side1 => exact byC (Kd.C_below HR0_1.out HB.out)); (case side2 => exact HC0_1.out); rintro e w6 ⟨v333, rfl, ho0, hb⟩; refine ⟨_, rfl, ?_⟩; have n0_ := Aside0.mk (Kd.R_lower ho0 (below_size (byB1 HB.out GE330.out))); have n1_ := Aside0.mk (blk_below (g := gb330) (o := .cells #[.int .i64 a0_0, .slice A0_1 l0_1.length c0_1] 24 (0, 0)) (byK BK330.out) hb); have n2_ := Aside0.mk (below_step (byB1 HB.out GE330.out) hb); clear BK330 HB; have HO334 := n0_; have BK330 := n1_; have HB := n2_; clear n0_ n1_ n2_; (try clear hb); (try clear hb2); (try clear hk); (try clear hi); (try clear ho0); obtain ⟨Ao7, co7, eo7⟩ := Kd.R_slice HO334.out; subst eo7) | ((with_reducible refine gate_callee (f := 28) rfl ?_); refine goesL_ (some 5) rfl rfl Try.func28 (by kernel_rfl) rfl #[.agg #[.int .i64 t331, .slice Ao7 t332.length co7]] rfl byL ?_; (with_reducible refine (mapmakerref37_Out.calls k t331 _ _ t332 t335 _ ?side1 ?side2 A3.out).mono ?_); (case side1 => repeat (first | exact (Kd.R_reads' HO334.out).2.2 | (with_reducible refine Kd.C_alloc ?_ _) | (with_reducible refine Kd.C_drewN ?_ _) | (with_reducible refine Kd.C_drew ?_))); (case side2 => exact (Kd.R_reads' HO334.out).2.1); rintro e w8 ⟨v336, rfl, ho0, hb⟩; refine ⟨_, rfl, ?_⟩; have n0_ := Aside0.mk (Kd.R_below (byR HO334.out) hb); have n1_ := Aside0.mk (Kd.S_lower ho0 (below_size (byB1 HB.out GE330.out))); have n2_ := Aside0.mk (blk_below (g := gb330) (o := .cells #[.int .i64 a0_0, .slice A0_1 l0_1.length c0_1] 24 (0, 0)) (byK BK330.out) hb); have n3_ := Aside0.mk (below_step (byB1 HB.out GE330.out) hb); clear HO334 BK330 HB; have HO334 := n0_; have HO337 := n1_; have BK330 := n2_; have HB := n3_; clear n0_ n1_ n2_ n3_; (try clear hb); (try clear hb2); (try clear hk); (try clear hi); (try clear ho0)))
 go_ret
 exact ⟨_, by first | rfl | (simp [errW_none, errW_some] <;> rfl) | (simp [*, errW_none, errW_some] <;> rfl), by (with_reducible repeat (first | apply Kd.S_alloc | apply Kd.S_drewN | apply Kd.S_drew)); exact HO337.out, by repeat (first | (with_reducible first | exact HB.out | apply below_alloc | apply pw_below_drewN | apply below_drew1 | refine below_set ?_ GE330.out) | exact HB.out)⟩

end Go.Proofs.Ytnnknbghfbjcnaa.Print
