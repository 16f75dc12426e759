/- Several texts of this claim in one: HQUnpP, F14, F45. -/
import Derived.Test.YtfnophaiamkmpaaM26
import Derived.Test.YtfnophaiamkmpaaPrint0
import Derived.Test.YtfnophaiamkmpaaM19
import Derived.Test.YtfnophaiamkmpaaM8
import Derived.Test.YtfnophaiamkmpaaM0
namespace Go.Proofs.Ytfnophaiamkmpaa.Print
open Go.RowKit Go.Proofs.YtfnophaiamkmpaaW.PrintWords Go.Proofs.YtfnophaiamkmpaaW.PrintLast Go.Proofs.YtfnophaiamkmpaaW.PrintMore
set_option linter.unusedVariables false
set_option linter.unusedSimpArgs false
def unpS (n : Nat) (arcs : List S58) (L ws : List Int) (b : Bool) (e : Int) : Int := sideS (wtL n arcs L ws (!b)) e
theorem unpS_small {n : Nat} {arcs : List S58} {L ws : List Int} {b : Bool} {e : Int} (h : unpS n arcs L ws b e < mInf) : ∃ i : Nat, e = (i : Int) ∧ i < eL n arcs L ∧ wtS n arcs L ws (!b) i = unpS n arcs L ws b e := by
 unfold unpS at h ⊢
 unfold sideS at h ⊢
 split at h
 ·rename_i h1
  obtain ⟨i, rfl⟩ := Int.eq_ofNat_of_zero_le h1.1
  have h2 : i < (wtL n arcs L ws (!b)).length := by omega
  rw [wtL_len] at h2
  refine ⟨i, rfl, h2, ?_⟩
  rw [if_pos h1]
  rfl
 ·omega
structure UnpOk (n : Nat) (arcs : List S58) (L ws : List Int) (e : Int) (b : Bool) (w w' : World) (v : Value) : Prop where
 out : unpS n arcs L ws b e < mInf ∧ ∃ (i : Nat) (l : List Int), e = (i : Int) ∧ i < eL n arcs L ∧ wtS n arcs L ws (!b) i = unpS n arcs L ws b e ∧ Kd.R (Kd.int .i64) 3 w' w.heap.size (fun _ => True) v l ∧ WalkL arcs ws (if b = true then eF n arcs L i else eT n arcs L i) (if b = true then eT n arcs L i else eF n arcs L i) l (wtS n arcs L ws (!b) i)
set_option maxHeartbeats 6400000 in
set_option maxRecDepth 100000 in
theorem query_Unpack.calls {w : World} {q p n : Nat} {arcs : List S58} {L ws : List Int} (hpc : PathC n arcs L ws q p) (hM : MetH w q p n arcs L ws) (e : Int) (b : Bool) :
  Calls Try.prog 27 #[.pointer (some ⟨q, 0, none⟩), .int .i64 e, .bool b] w fun x w' => Below w.heap.size w w' ∧ ((mInf ≤ unpS n arcs L ws b e ∧ x = .returned (.tuple #[.slice none 0 0, .bool false])) ∨
   (∃ (v : Value), x = .returned (.tuple #[v, .bool true]) ∧ UnpOk n arcs L ws e b w w' v)) := by
 have HM := Aside0.mk hM
 have HR := Aside0.mk (hM.reads hpc.hk (by have := hpc.hn; omega))
 have hn := hpc.hn
 have hal := hpc.al
 have HV1 : Aside0 (b = true → sideS (sdS n arcs L ws).1 e = unpS n arcs L ws b e) := ⟨by rintro rfl; rfl⟩
 have HV2 : Aside0 (b = false → sideS (sdS n arcs L ws).2 e = unpS n arcs L ws b e) := ⟨by rintro rfl; rfl⟩
 have HSM := Aside0.mk (fun h => unpS_small (n := n) (arcs := arcs) (L := L) (ws := ws) (b := b) (e := e) h)
 obtain ⟨c, HC⟩ : ∃ c, Aside0 (unpS n arcs L ws b e = c) := ⟨_, ⟨rfl⟩⟩
 rw [HC.out] at HV1 HV2 HSM
 have hmi : mInf = 1152921504606846976 := rfl
 clear hM
 by_cases hc : mInf ≤ c
 ·rw [hmi] at hc
  cases b with
  | true =>
   replace HV1 := Aside0.mk (HV1.out rfl)
   go_enter Try.func27, Try.ntmps27
   go_wp2_with (fail)
   refine (Metric_Up.calls HR.out e).mono ?_
   rintro x w1 ⟨rfl, rfl⟩
   rw [HV1.out]
   go_wp2_with (fail)
   go_ret2
   exact ⟨Below.refl _ _, .inl ⟨by rw [HC.out]; exact hc, rfl⟩⟩
  | false =>
   replace HV2 := Aside0.mk (HV2.out rfl)
   go_enter Try.func27, Try.ntmps27
   go_wp2_with (fail)
   refine (Metric_Down.calls HR.out e).mono ?_
   rintro x w1 ⟨rfl, rfl⟩
   rw [HV2.out]
   go_wp2_with (fail)
   go_ret2
   exact ⟨Below.refl _ _, .inl ⟨by rw [HC.out]; exact hc, rfl⟩⟩
 ·have hlt : c < mInf := by omega
  obtain ⟨i, rfl, hi, hw⟩ := HSM.out hlt
  have HWT := Aside0.mk hw
  have HI := Aside0.mk hi
  rw [hmi] at hc
  obtain ⟨z, _, hz, _, hz0, _⟩ := hpc.hk.edge_rk hi
  have HLT := Aside0.mk hlt
  have HZ : Aside0 (∃ y, y < n ∧ eF n arcs L i = L.getD y 0) := ⟨z, by omega, hz0⟩
  clear hw hi hlt hz0 HSM hz
  cases b with
  | true =>
   replace HV1 := Aside0.mk (HV1.out rfl)
   go_enter Try.func27, Try.ntmps27
   go_wp2_with (fail)
   refine (Metric_Up.calls HR.out (i : Int)).mono ?_
   rintro x w1 ⟨rfl, rfl⟩
   rw [HV1.out]
   go_wp2_with (fail)
   refine (query_newUnpacker.calls hpc.hk (by omega) HM.out hal hpc.wl).mono ?_
   rintro x w3 ⟨pu, rfl, hb3, hU3⟩
   have HB := Aside0.mk hb3
   have HU := Aside0.mk hU3
   clear hb3 hU3
   go_wp2_with (fail)
   obtain ⟨y, hy, hye⟩ := HZ.out
   have hp : 2 ^ y ≤ 2 ^ 20 := Nat.pow_le_pow_right (by decide) (by omega)
   refine ((query_unpack.calls hpc.hk hn hpc.wl hpc.wr hal HU.out y).ap true hy (Below.refl _ _) HI.out hye (by rw [HWT.out]; exact HLT.out) (Kd.R_nil _ _ _ _ _) (by simp only [List.length_nil]; omega)).mono ?_
   rintro x w4 ⟨v, l, rfl, hb4, hr, hw, _⟩
   have HR4 := Aside0.mk hr
   have HW4 := Aside0.mk hw
   have HB4 := Aside0.mk (And.intro HB.out.size (below_then HB.out HB.out.size hb4))
   clear hr hw hb4 hy hye hp
   go_wp2_with (fail)
   go_ret2
   exact ⟨HB4.out.2, .inr ⟨v, rfl, ⟨by rw [HC.out]; exact HLT.out, i, l, rfl, HI.out, by rw [HC.out]; exact HWT.out, Kd.R_lower HR4.out HB4.out.1, HW4.out⟩⟩⟩
  | false =>
   replace HV2 := Aside0.mk (HV2.out rfl)
   go_enter Try.func27, Try.ntmps27
   go_wp2_with (fail)
   refine (Metric_Down.calls HR.out (i : Int)).mono ?_
   rintro x w1 ⟨rfl, rfl⟩
   rw [HV2.out]
   go_wp2_with (fail)
   refine (query_newUnpacker.calls hpc.hk (by omega) HM.out hal hpc.wl).mono ?_
   rintro x w3 ⟨pu, rfl, hb3, hU3⟩
   have HB := Aside0.mk hb3
   have HU := Aside0.mk hU3
   clear hb3 hU3
   go_wp2_with (fail)
   obtain ⟨y, hy, hye⟩ := HZ.out
   have hp : 2 ^ y ≤ 2 ^ 20 := Nat.pow_le_pow_right (by decide) (by omega)
   refine ((query_unpack.calls hpc.hk hn hpc.wl hpc.wr hal HU.out y).ap false hy (Below.refl _ _) HI.out hye (by rw [HWT.out]; exact HLT.out) (Kd.R_nil _ _ _ _ _) (by simp only [List.length_nil]; omega)).mono ?_
   rintro x w4 ⟨v, l, rfl, hb4, hr, hw, _⟩
   have HR4 := Aside0.mk hr
   have HW4 := Aside0.mk hw
   have HB4 := Aside0.mk (And.intro HB.out.size (below_then HB.out HB.out.size hb4))
   clear hr hw hb4 hy hye hp
   go_wp2_with (fail)
   go_ret2
   exact ⟨HB4.out.2, .inr ⟨v, rfl, ⟨by rw [HC.out]; exact HLT.out, i, l, rfl, HI.out, by rw [HC.out]; exact HWT.out, Kd.R_lower HR4.out HB4.out.1, HW4.out⟩⟩⟩
attribute [local go_sem] max2_int min2_int max_two min_two max_three min_three max_four min_four   -- for this text's walks alone
set_option linter.unusedVariables false
set_option linter.unusedSimpArgs false
/-! ### mapmakerlaw42_valid: function 14 -/
def mapmakerlaw42_valid.f (k : Nat) (a0_0 : Int) (l0_1 : List (S58)) (l0_2 : List Int) (l0_3 : List Int) : Option (Bool) := if a0_0 ≤ 12 then (if (l0_1.length : Int) ≤ 40 then (if (l0_2.length : Int) ≤ 12 then (if (l0_3.length : Int) ≤ 40 then ((mapmakerref38_Check.f k a0_0 l0_1 l0_3).bind fun t113 => (if t113 = 0 then ((mapmakerref39_Check.f k a0_0 l0_2).bind fun t114 => (some (t114 == 0))) else (some false))) else (some false)) else (some false)) else (some false)) else (some false)
set_option maxHeartbeats 8000000 in
set_option maxRecDepth 100000 in
theorem mapmakerlaw42_valid.calls (k : Nat) (a0_0 : Int) (A0_1 : Option Addr) (c0_1 : Nat) (l0_1 : List (S58)) (A0_2 : Option Addr) (c0_2 : Nat) (l0_2 : List Int) (A0_3 : Option Addr) (c0_3 : Nat) (l0_3 : List Int) (r : Bool) (w : World) (hr0_1 : Kd.C k58 w A0_1 l0_1.length l0_1) (hc0_1 : l0_1.length ≤ c0_1) (hr0_2 : Kd.C (Kd.int .i64) w A0_2 l0_2.length l0_2) (hc0_2 : l0_2.length ≤ c0_2) (hr0_3 : Kd.C (Kd.int .i64) w A0_3 l0_3.length l0_3) (hc0_3 : l0_3.length ≤ c0_3) (h : mapmakerlaw42_valid.f k a0_0 l0_1 l0_2 l0_3 = some r) :
  Calls Try.prog 14 #[.agg #[.int .i64 a0_0, .slice A0_1 l0_1.length c0_1, .slice A0_2 l0_2.length c0_2, .slice A0_3 l0_3.length c0_3]] w fun e w' => e = .returned (.bool r) ∧ Below w.heap.size w w' := by
 have hu27 := Try.underlying27; have hu24 := Try.underlying24; have HR0_1 := Aside0.mk hr0_1; have HC0_1 := Aside0.mk hc0_1; clear hr0_1 hc0_1; have HR0_2 := Aside0.mk hr0_2; have HC0_2 := Aside0.mk hc0_2; clear hr0_2 hc0_2; have HR0_3 := Aside0.mk hr0_3; have HC0_3 := Aside0.mk hc0_3; clear hr0_3 hc0_3; have HB := Aside0.mk (Below.refl w.heap.size w)
 have H : (if a0_0 ≤ 12 then (if (l0_1.length : Int) ≤ 40 then (if (l0_2.length : Int) ≤ 12 then (if (l0_3.length : Int) ≤ 40 then ((mapmakerref38_Check.f k a0_0 l0_1 l0_3).bind fun t113 => (if t113 = 0 then ((mapmakerref39_Check.f k a0_0 l0_2).bind fun t114 => (some (t114 == 0))) else (some false))) else (some false)) else (some false)) else (some false)) else (some false)) = some r := h
 clear h
 by_cases c2 : a0_0 ≤ 12
 ·rw [if_pos c2] at H
  have c2b0 : decide (a0_0 ≤ 12) = true := decide_eq_true c2
  clear c2
  by_cases c3 : (l0_1.length : Int) ≤ 40
  ·rw [if_pos c3] at H
   have c3b0 : decide ((l0_1.length : Int) ≤ 40) = true := decide_eq_true c3
   have c3b1 : decide (l0_1.length ≤ 40) = true := decide_eq_true (by omega)
   clear c3
   by_cases c4 : (l0_2.length : Int) ≤ 12
   ·rw [if_pos c4] at H
    have c4b0 : decide ((l0_2.length : Int) ≤ 12) = true := decide_eq_true c4
    have c4b1 : decide (l0_2.length ≤ 12) = true := decide_eq_true (by omega)
    clear c4
    by_cases c5 : (l0_3.length : Int) ≤ 40
    ·rw [if_pos c5] at H
     have c5b0 : decide ((l0_3.length : Int) ≤ 40) = true := decide_eq_true c5
     have c5b1 : decide (l0_3.length ≤ 40) = true := decide_eq_true (by omega)
     clear c5
     replace H := Option.bind_eq_some_iff.mp H
     obtain ⟨t113, A60, H⟩ := H
     replace H : (if t113 = 0 then ((mapmakerref39_Check.f k a0_0 l0_2).bind fun t114 => (some (t114 == 0))) else (some false)) = some r := H
     have A6 := Aside0.mk A60; clear A60
     by_cases c7 : t113 = 0
     ·rw [if_pos c7] at H
      have c7b0 : (t113 == 0) = true := beq_iff_eq.mpr c7
      have c7b1 : (t113 != 0) = false := bne_eq_false_iff_eq.mpr c7
      clear c7
      replace H := Option.bind_eq_some_iff.mp H
      obtain ⟨t114, A80, H⟩ := H
      replace H : (some (t114 == 0)) = some r := H
      have A8 := Aside0.mk A80; clear A80
      obtain rfl := Option.some.inj H
      go_enter Try.func14, Try.ntmps14
      go_wp2_with (first | ((with_reducible refine gate_dst (N := 1) rfl ?_); (try (refine gate_guard (by rfl) ?_; dsimp only)); refine box_event ?hg (N := 1) ?hd (cs := #[.int .i64 a0_0, .slice A0_1 l0_1.length c0_1, .slice A0_2 l0_2.length c0_2, .slice A0_3 l0_3.length c0_3]) (t := 27) ?hr ?_; (case hd => rfl); (case hg => rfl); (case hr => first | (go_simp; done) | (go_simp; rfl)); intro gb112 hg w9 hbox hb; have n0_ := Aside0.mk (below_step (byB HB.out) hb); have n1_ := Aside0.mk (hbox); have n2_ := Aside0.mk ((by rw [hg]; exact (below_size (byB HB.out)) : w.heap.size ≤ gb112)); have n3_ := Aside0.mk ((by rw [hg]; exact (below_size (byB HB.out)) : w.heap.size ≤ gb112)); clear HB; have HB := n0_; have BK112 := n1_; have GW112 := n2_; have GE112 := n3_; clear n0_ n1_ n2_ n3_ hb hbox hg; have hcz10_0 : w9.cell? ⟨gb112, 0, none⟩ = some (.int .i64 a0_0) := (blk_cell BK112.out 0).trans rfl; have hcz10_1 : w9.cell? ⟨gb112, 1, none⟩ = some (.slice A0_1 l0_1.length c0_1) := (blk_cell BK112.out 1).trans rfl; have hcz10_2 : w9.cell? ⟨gb112, 2, none⟩ = some (.slice A0_2 l0_2.length c0_2) := (blk_cell BK112.out 2).trans rfl; have hcz10_3 : w9.cell? ⟨gb112, 3, none⟩ = some (.slice A0_3 l0_3.length c0_3) := (blk_cell BK112.out 3).trans rfl; have hfz10_0 := blk_frozen BK112.out 0; have hfz10_1 := blk_frozen BK112.out 1; have hfz10_2 := blk_frozen BK112.out 2; have hfz10_3 := blk_frozen BK112.out 3) | (go_at_call 30; (with_reducible refine (mapmakerref38_Check.calls k a0_0 _ _ l0_1 _ _ l0_3 t113 _ ?side1 ?side2 ?side3 ?side4 A6.out).mono ?_); (case side1 => exact byC (Kd.C_below HR0_1.out HB.out)); (case side2 => exact HC0_1.out); (case side3 => exact byC (Kd.C_below HR0_3.out HB.out)); (case side4 => exact HC0_3.out); rintro e w11 ⟨rfl, hb⟩; have n0_ := Aside0.mk (blk_below (g := gb112) (o := .cells #[.int .i64 a0_0, .slice A0_1 l0_1.length c0_1, .slice A0_2 l0_2.length c0_2, .slice A0_3 l0_3.length c0_3] 27 (0, 0)) (byK BK112.out) hb); have n1_ := Aside0.mk (below_step (byB1 HB.out GE112.out) hb); clear BK112 HB; have BK112 := n0_; have HB := n1_; clear n0_ n1_; (try clear hb); (try clear hb2); (try clear hk); (try clear hi); have hcz12_0 : w11.cell? ⟨gb112, 0, none⟩ = some (.int .i64 a0_0) := (blk_cell BK112.out 0).trans rfl; have hcz12_1 : w11.cell? ⟨gb112, 1, none⟩ = some (.slice A0_1 l0_1.length c0_1) := (blk_cell BK112.out 1).trans rfl; have hcz12_2 : w11.cell? ⟨gb112, 2, none⟩ = some (.slice A0_2 l0_2.length c0_2) := (blk_cell BK112.out 2).trans rfl; have hcz12_3 : w11.cell? ⟨gb112, 3, none⟩ = some (.slice A0_3 l0_3.length c0_3) := (blk_cell BK112.out 3).trans rfl; have hfz12_0 := blk_frozen BK112.out 0; have hfz12_1 := blk_frozen BK112.out 1; have hfz12_2 := blk_frozen BK112.out 2; have hfz12_3 := blk_frozen BK112.out 3) | (go_at_call 44; (with_reducible refine (mapmakerref39_Check.calls k a0_0 _ _ l0_2 t114 _ ?side1 ?side2 A8.out).mono ?_); (case side1 => exact byC (Kd.C_below HR0_2.out HB.out)); (case side2 => exact HC0_2.out); rintro e w' ⟨rfl, ⟨nd, rfl⟩⟩))
      go_ret
      exact ⟨byE, byB1 HB.out GE112.out⟩
     ·rw [if_neg c7] at H
      have c7b0 : (t113 == 0) = false := beq_eq_false_iff_ne.mpr c7
      have c7b1 : (t113 != 0) = true := bne_iff_ne.mpr c7
      obtain rfl := Option.some.inj H
      go_enter Try.func14, Try.ntmps14
      go_wp2_with (first | ((with_reducible refine gate_dst (N := 1) rfl ?_); (try (refine gate_guard (by rfl) ?_; dsimp only)); refine box_event ?hg (N := 1) ?hd (cs := #[.int .i64 a0_0, .slice A0_1 l0_1.length c0_1, .slice A0_2 l0_2.length c0_2, .slice A0_3 l0_3.length c0_3]) (t := 27) ?hr ?_; (case hd => rfl); (case hg => rfl); (case hr => first | (go_simp; done) | (go_simp; rfl)); intro gb112 hg w13 hbox hb; have n0_ := Aside0.mk (below_step (byB HB.out) hb); have n1_ := Aside0.mk (hbox); have n2_ := Aside0.mk ((by rw [hg]; exact (below_size (byB HB.out)) : w.heap.size ≤ gb112)); have n3_ := Aside0.mk ((by rw [hg]; exact (below_size (byB HB.out)) : w.heap.size ≤ gb112)); clear HB; have HB := n0_; have BK112 := n1_; have GW112 := n2_; have GE112 := n3_; clear n0_ n1_ n2_ n3_ hb hbox hg; have hcz14_0 : w13.cell? ⟨gb112, 0, none⟩ = some (.int .i64 a0_0) := (blk_cell BK112.out 0).trans rfl; have hcz14_1 : w13.cell? ⟨gb112, 1, none⟩ = some (.slice A0_1 l0_1.length c0_1) := (blk_cell BK112.out 1).trans rfl; have hcz14_2 : w13.cell? ⟨gb112, 2, none⟩ = some (.slice A0_2 l0_2.length c0_2) := (blk_cell BK112.out 2).trans rfl; have hcz14_3 : w13.cell? ⟨gb112, 3, none⟩ = some (.slice A0_3 l0_3.length c0_3) := (blk_cell BK112.out 3).trans rfl; have hfz14_0 := blk_frozen BK112.out 0; have hfz14_1 := blk_frozen BK112.out 1; have hfz14_2 := blk_frozen BK112.out 2; have hfz14_3 := blk_frozen BK112.out 3) | (go_at_call 30; (with_reducible refine (mapmakerref38_Check.calls k a0_0 _ _ l0_1 _ _ l0_3 t113 _ ?side1 ?side2 ?side3 ?side4 A6.out).mono ?_); (case side1 => exact byC (Kd.C_below HR0_1.out HB.out)); (case side2 => exact HC0_1.out); (case side3 => exact byC (Kd.C_below HR0_3.out HB.out)); (case side4 => exact HC0_3.out); rintro e w15 ⟨rfl, hb⟩; have n0_ := Aside0.mk (blk_below (g := gb112) (o := .cells #[.int .i64 a0_0, .slice A0_1 l0_1.length c0_1, .slice A0_2 l0_2.length c0_2, .slice A0_3 l0_3.length c0_3] 27 (0, 0)) (byK BK112.out) hb); have n1_ := Aside0.mk (below_step (byB1 HB.out GE112.out) hb); clear BK112 HB; have BK112 := n0_; have HB := n1_; clear n0_ n1_; (try clear hb); (try clear hb2); (try clear hk); (try clear hi)))
      go_ret
      exact ⟨byE, byB1 HB.out GE112.out⟩
    ·rw [if_neg c5] at H
     have c5b0 : decide ((l0_3.length : Int) ≤ 40) = false := decide_eq_false c5
     have c5b1 : decide (l0_3.length ≤ 40) = false := decide_eq_false (by omega)
     clear c5
     obtain rfl := Option.some.inj H
     go_enter Try.func14, Try.ntmps14
     go_wp2_with (first | ((with_reducible refine gate_dst (N := 1) rfl ?_); (try (refine gate_guard (by rfl) ?_; dsimp only)); refine box_event ?hg (N := 1) ?hd (cs := #[.int .i64 a0_0, .slice A0_1 l0_1.length c0_1, .slice A0_2 l0_2.length c0_2, .slice A0_3 l0_3.length c0_3]) (t := 27) ?hr ?_; (case hd => rfl); (case hg => rfl); (case hr => first | (go_simp; done) | (go_simp; rfl)); intro gb112 hg w16 hbox hb; have n0_ := Aside0.mk (below_step (byB HB.out) hb); have n1_ := Aside0.mk (hbox); have n2_ := Aside0.mk ((by rw [hg]; exact (below_size (byB HB.out)) : w.heap.size ≤ gb112)); have n3_ := Aside0.mk ((by rw [hg]; exact (below_size (byB HB.out)) : w.heap.size ≤ gb112)); clear HB; have HB := n0_; have BK112 := n1_; have GW112 := n2_; have GE112 := n3_; clear n0_ n1_ n2_ n3_ hb hbox hg; have hcz17_0 : w16.cell? ⟨gb112, 0, none⟩ = some (.int .i64 a0_0) := (blk_cell BK112.out 0).trans rfl; have hcz17_1 : w16.cell? ⟨gb112, 1, none⟩ = some (.slice A0_1 l0_1.length c0_1) := (blk_cell BK112.out 1).trans rfl; have hcz17_2 : w16.cell? ⟨gb112, 2, none⟩ = some (.slice A0_2 l0_2.length c0_2) := (blk_cell BK112.out 2).trans rfl; have hcz17_3 : w16.cell? ⟨gb112, 3, none⟩ = some (.slice A0_3 l0_3.length c0_3) := (blk_cell BK112.out 3).trans rfl; have hfz17_0 := blk_frozen BK112.out 0; have hfz17_1 := blk_frozen BK112.out 1; have hfz17_2 := blk_frozen BK112.out 2; have hfz17_3 := blk_frozen BK112.out 3))
     go_ret
     exact ⟨byE, byB1 HB.out GE112.out⟩
   ·rw [if_neg c4] at H
    have c4b0 : decide ((l0_2.length : Int) ≤ 12) = false := decide_eq_false c4
    have c4b1 : decide (l0_2.length ≤ 12) = false := decide_eq_false (by omega)
    clear c4
    obtain rfl := Option.some.inj H
    go_enter Try.func14, Try.ntmps14
    go_wp2_with (first | ((with_reducible refine gate_dst (N := 1) rfl ?_); (try (refine gate_guard (by rfl) ?_; dsimp only)); refine box_event ?hg (N := 1) ?hd (cs := #[.int .i64 a0_0, .slice A0_1 l0_1.length c0_1, .slice A0_2 l0_2.length c0_2, .slice A0_3 l0_3.length c0_3]) (t := 27) ?hr ?_; (case hd => rfl); (case hg => rfl); (case hr => first | (go_simp; done) | (go_simp; rfl)); intro gb112 hg w18 hbox hb; have n0_ := Aside0.mk (below_step (byB HB.out) hb); have n1_ := Aside0.mk (hbox); have n2_ := Aside0.mk ((by rw [hg]; exact (below_size (byB HB.out)) : w.heap.size ≤ gb112)); have n3_ := Aside0.mk ((by rw [hg]; exact (below_size (byB HB.out)) : w.heap.size ≤ gb112)); clear HB; have HB := n0_; have BK112 := n1_; have GW112 := n2_; have GE112 := n3_; clear n0_ n1_ n2_ n3_ hb hbox hg; have hcz19_0 : w18.cell? ⟨gb112, 0, none⟩ = some (.int .i64 a0_0) := (blk_cell BK112.out 0).trans rfl; have hcz19_1 : w18.cell? ⟨gb112, 1, none⟩ = some (.slice A0_1 l0_1.length c0_1) := (blk_cell BK112.out 1).trans rfl; have hcz19_2 : w18.cell? ⟨gb112, 2, none⟩ = some (.slice A0_2 l0_2.length c0_2) := (blk_cell BK112.out 2).trans rfl; have hcz19_3 : w18.cell? ⟨gb112, 3, none⟩ = some (.slice A0_3 l0_3.length c0_3) := (blk_cell BK112.out 3).trans rfl; have hfz19_0 := blk_frozen BK112.out 0; have hfz19_1 := blk_frozen BK112.out 1; have hfz19_2 := blk_frozen BK112.out 2; have hfz19_3 := blk_frozen BK112.out 3))
    go_ret
    exact ⟨byE, byB1 HB.out GE112.out⟩
  ·rw [if_neg c3] at H
   have c3b0 : decide ((l0_1.length : Int) ≤ 40) = false := decide_eq_false c3
   have c3b1 : decide (l0_1.length ≤ 40) = false := decide_eq_false (by omega)
   clear c3
   obtain rfl := Option.some.inj H
   go_enter Try.func14, Try.ntmps14
   go_wp2_with (first | ((with_reducible refine gate_dst (N := 1) rfl ?_); (try (refine gate_guard (by rfl) ?_; dsimp only)); refine box_event ?hg (N := 1) ?hd (cs := #[.int .i64 a0_0, .slice A0_1 l0_1.length c0_1, .slice A0_2 l0_2.length c0_2, .slice A0_3 l0_3.length c0_3]) (t := 27) ?hr ?_; (case hd => rfl); (case hg => rfl); (case hr => first | (go_simp; done) | (go_simp; rfl)); intro gb112 hg w20 hbox hb; have n0_ := Aside0.mk (below_step (byB HB.out) hb); have n1_ := Aside0.mk (hbox); have n2_ := Aside0.mk ((by rw [hg]; exact (below_size (byB HB.out)) : w.heap.size ≤ gb112)); have n3_ := Aside0.mk ((by rw [hg]; exact (below_size (byB HB.out)) : w.heap.size ≤ gb112)); clear HB; have HB := n0_; have BK112 := n1_; have GW112 := n2_; have GE112 := n3_; clear n0_ n1_ n2_ n3_ hb hbox hg; have hcz21_0 : w20.cell? ⟨gb112, 0, none⟩ = some (.int .i64 a0_0) := (blk_cell BK112.out 0).trans rfl; have hcz21_1 : w20.cell? ⟨gb112, 1, none⟩ = some (.slice A0_1 l0_1.length c0_1) := (blk_cell BK112.out 1).trans rfl; have hcz21_2 : w20.cell? ⟨gb112, 2, none⟩ = some (.slice A0_2 l0_2.length c0_2) := (blk_cell BK112.out 2).trans rfl; have hcz21_3 : w20.cell? ⟨gb112, 3, none⟩ = some (.slice A0_3 l0_3.length c0_3) := (blk_cell BK112.out 3).trans rfl; have hfz21_0 := blk_frozen BK112.out 0; have hfz21_1 := blk_frozen BK112.out 1; have hfz21_2 := blk_frozen BK112.out 2; have hfz21_3 := blk_frozen BK112.out 3))
   go_ret
   exact ⟨byE, byB1 HB.out GE112.out⟩
 ·rw [if_neg c2] at H
  have c2b0 : decide (a0_0 ≤ 12) = false := decide_eq_false c2
  clear c2
  obtain rfl := Option.some.inj H
  go_enter Try.func14, Try.ntmps14
  go_wp2_with (first | ((with_reducible refine gate_dst (N := 1) rfl ?_); (try (refine gate_guard (by rfl) ?_; dsimp only)); refine box_event ?hg (N := 1) ?hd (cs := #[.int .i64 a0_0, .slice A0_1 l0_1.length c0_1, .slice A0_2 l0_2.length c0_2, .slice A0_3 l0_3.length c0_3]) (t := 27) ?hr ?_; (case hd => rfl); (case hg => rfl); (case hr => first | (go_simp; done) | (go_simp; rfl)); intro gb112 hg w22 hbox hb; have n0_ := Aside0.mk (below_step (byB HB.out) hb); have n1_ := Aside0.mk (hbox); have n2_ := Aside0.mk ((by rw [hg]; exact (below_size (byB HB.out)) : w.heap.size ≤ gb112)); have n3_ := Aside0.mk ((by rw [hg]; exact (below_size (byB HB.out)) : w.heap.size ≤ gb112)); clear HB; have HB := n0_; have BK112 := n1_; have GW112 := n2_; have GE112 := n3_; clear n0_ n1_ n2_ n3_ hb hbox hg; have hcz23_0 : w22.cell? ⟨gb112, 0, none⟩ = some (.int .i64 a0_0) := (blk_cell BK112.out 0).trans rfl; have hcz23_1 : w22.cell? ⟨gb112, 1, none⟩ = some (.slice A0_1 l0_1.length c0_1) := (blk_cell BK112.out 1).trans rfl; have hcz23_2 : w22.cell? ⟨gb112, 2, none⟩ = some (.slice A0_2 l0_2.length c0_2) := (blk_cell BK112.out 2).trans rfl; have hcz23_3 : w22.cell? ⟨gb112, 3, none⟩ = some (.slice A0_3 l0_3.length c0_3) := (blk_cell BK112.out 3).trans rfl; have hfz23_0 := blk_frozen BK112.out 0; have hfz23_1 := blk_frozen BK112.out 1; have hfz23_2 := blk_frozen BK112.out 2; have hfz23_3 := blk_frozen BK112.out 3))
  go_ret
  exact ⟨byE, byB1 HB.out GE112.out⟩
set_option linter.unusedVariables false
set_option linter.unusedSimpArgs false
/-! ### mapmakerlaw42_cycle: function 45 -/
def mapmakerlaw42_cycle.f  : Option (Int × (List (S58)) × List Int × List Int) := some (4, (([(⟨0, 1⟩ : S58), (⟨1, 2⟩ : S58), (⟨2, 3⟩ : S58), (⟨3, 0⟩ : S58)] : List (S58))), (([0, 1, 2, 3] : List Int)), (([1, 1, 1, 1] : List Int)))
set_option maxHeartbeats 8000000 in
set_option maxRecDepth 100000 in
theorem mapmakerlaw42_cycle.calls  (r1 : Int) (r2 : List (S58)) (r3 : List Int) (r4 : List Int) (w : World) (h : mapmakerlaw42_cycle.f  = some (r1, r2, r3, r4)) :
  Calls Try.prog 45 #[] w fun e w' => ∃ v1_ v2_ v3_ : Value, e = .returned (.agg #[.int .i64 r1, v1_, v2_, v3_]) ∧ Kd.R k58 58 w' w.heap.size (fun _ => True) v1_ r2 ∧ Kd.R (Kd.int .i64) 3 w' w.heap.size (fun k_ => some k_ ≠ (v3_ : Value).ownBlock) v2_ r3 ∧ Kd.R (Kd.int .i64) 3 w' w.heap.size (fun k_ => some k_ ≠ (v2_ : Value).ownBlock) v3_ r4 ∧ Below w.heap.size w w' := by
 have hu27 := Try.underlying27; have hu58 := Try.underlying58; have hu24 := Try.underlying24; have HB := Aside0.mk (Below.refl w.heap.size w)
 have H : (some (4, (([(⟨0, 1⟩ : S58), (⟨1, 2⟩ : S58), (⟨2, 3⟩ : S58), (⟨3, 0⟩ : S58)] : List (S58))), (([0, 1, 2, 3] : List Int)), (([1, 1, 1, 1] : List Int)))) = some (r1, r2, r3, r4) := h
 clear h
 obtain ⟨y149, hy149⟩ : ∃ y_ : List (S58), y_ = (([(⟨0, 1⟩ : S58), (⟨1, 2⟩ : S58), (⟨2, 3⟩ : S58), (⟨3, 0⟩ : S58)] : List (S58))) := ⟨_, rfl⟩
 replace H : (some (4, y149, (([0, 1, 2, 3] : List Int)), (([1, 1, 1, 1] : List Int)))) = some (r1, r2, r3, r4) := by first | (rw [hy149]; with_reducible exact H) | (have H2_ := (Option.bind_some _ _).symm.trans H; rw [hy149]; with_reducible exact H2_) | (have H2_ := (Option.bind_some _ _).symm.trans H; with_reducible exact H2_) | with_reducible exact H | (rw [hy149]; exact H) | exact H
 have Ny149 := Aside0.mk hy149; clear hy149
 obtain ⟨y152, hy152⟩ : ∃ y_ : List Int, y_ = (([0, 1, 2, 3] : List Int)) := ⟨_, rfl⟩
 replace H : (some (4, y149, y152, (([1, 1, 1, 1] : List Int)))) = some (r1, r2, r3, r4) := by first | (rw [hy152]; with_reducible exact H) | (have H2_ := (Option.bind_some _ _).symm.trans H; rw [hy152]; with_reducible exact H2_) | (have H2_ := (Option.bind_some _ _).symm.trans H; with_reducible exact H2_) | with_reducible exact H | (rw [hy152]; exact H) | exact H
 have Ny152 := Aside0.mk hy152; clear hy152
 obtain ⟨y155, hy155⟩ : ∃ y_ : List Int, y_ = (([1, 1, 1, 1] : List Int)) := ⟨_, rfl⟩
 replace H : (some (4, y149, y152, y155)) = some (r1, r2, r3, r4) := by first | (rw [hy155]; with_reducible exact H) | (have H2_ := (Option.bind_some _ _).symm.trans H; rw [hy155]; with_reducible exact H2_) | (have H2_ := (Option.bind_some _ _).symm.trans H; with_reducible exact H2_) | with_reducible exact H | (rw [hy155]; exact H) | exact H
 have Ny155 := Aside0.mk hy155; clear hy155
 simp only [Option.some.injEq, Prod.mk.injEq] at H
 obtain ⟨rfl, rfl, rfl, rfl⟩ := H
 go_enter Try.func45, Try.ntmps45
 go_wp2_with (first | ((with_reducible refine gate_dst (N := 0) rfl ?_); refine box_event ?hg (N := 0) ?hd (cs := #[.int .i64 0, .slice none 0 0, .slice none 0 0, .slice none 0 0]) (t := 27) ?hr ?_; (case hd => rfl); (case hg => rfl); (case hr => first | (go_simp; done) | (go_simp; rfl)); intro gb148 hg w1 hbox hb; have n0_ := Aside0.mk (below_step (byB HB.out) hb); have n1_ := Aside0.mk (hbox); have n2_ := Aside0.mk ((by rw [hg]; exact (below_size (byB HB.out)) : w.heap.size ≤ gb148)); have n3_ := Aside0.mk ((by rw [hg]; exact (below_size (byB HB.out)) : w.heap.size ≤ gb148)); clear HB; have HB := n0_; have BK148 := n1_; have GW148 := n2_; have GE148 := n3_; clear n0_ n1_ n2_ n3_ hb hbox hg) | ((with_reducible refine gate_dst (N := 5) rfl ?_); refine Kd.R_lit k58 _ 58 ?hg (N := 5) ?hd (xs := ([(⟨0, 1⟩ : S58), (⟨1, 2⟩ : S58), (⟨2, 3⟩ : S58), (⟨3, 0⟩ : S58)] : List (S58))) (inner := [.int .i64 0, .int .i64 1, .int .i64 1, .int .i64 2, .int .i64 2, .int .i64 3, .int .i64 3, .int .i64 0]) (ok := fun _ => True) (okp := fun _ => True) ?hr ?hp (fun _ hk => hk) trivial (Below.refl _ _) (Nat.le_refl _) (by simp) ?_; (case hd => rfl); (case hg => rfl); (case hr => first | (go_simp; done) | (go_simp; rfl)); (case hp => exact (Reps.c2 (show Kd.M k58 _ _ _ (⟨0, 1⟩ : S58) [.int .i64 0, .int .i64 1] from (k58_mkM _ _ _ (⟨0, 1⟩ : S58) )) (Reps.c2 (show Kd.M k58 _ _ _ (⟨1, 2⟩ : S58) [.int .i64 1, .int .i64 2] from (k58_mkM _ _ _ (⟨1, 2⟩ : S58) )) (Reps.c2 (show Kd.M k58 _ _ _ (⟨2, 3⟩ : S58) [.int .i64 2, .int .i64 3] from (k58_mkM _ _ _ (⟨2, 3⟩ : S58) )) (Reps.c2 (show Kd.M k58 _ _ _ (⟨3, 0⟩ : S58) [.int .i64 3, .int .i64 0] from (k58_mkM _ _ _ (⟨3, 0⟩ : S58) )) (Reps.none _ _)))))); intro v150 w2 ho3 hb hg_ hnew_; clear hg_ hnew_; (first | rw [← Ny149.out] at ho3 | (simp only [Int.reduceToNat] at ho3; rw [← Ny149.out] at ho3)); have n0_ := Aside0.mk (Kd.R_lower ho3 (below_size (byB1 HB.out GE148.out))); have n1_ := Aside0.mk (blk_below (g := gb148) (o := .cells #[.int .i64 0, .slice none 0 0, .slice none 0 0, .slice none 0 0] 27 (0, 0)) (byK BK148.out) hb); have n2_ := Aside0.mk (below_step (byB1 HB.out GE148.out) hb); clear BK148 HB; have HO151 := n0_; have BK148 := n1_; have HB := n2_; clear n0_ n1_ n2_ hb ho3; obtain ⟨Ao4, co4, eo4⟩ := Kd.R_slice HO151.out; subst eo4) | ((with_reducible refine gate_dst (N := 7) rfl ?_); refine Kd.R_lit (Kd.int .i64) _ 3 ?hg (N := 7) ?hd (xs := ([0, 1, 2, 3] : List Int)) (inner := [.int .i64 0, .int .i64 1, .int .i64 2, .int .i64 3]) (ok := fun _ => True) (okp := fun _ => True) ?hr ?hp (fun _ hk => hk) trivial (Below.refl _ _) (Nat.le_refl _) (by simp) ?_; (case hd => rfl); (case hg => rfl); (case hr => first | (go_simp; done) | (go_simp; rfl)); (case hp => exact (Reps.one (show Kd.M (Kd.int .i64) _ _ _ 0 [.int .i64 0] from rfl) (Reps.one (show Kd.M (Kd.int .i64) _ _ _ 1 [.int .i64 1] from rfl) (Reps.one (show Kd.M (Kd.int .i64) _ _ _ 2 [.int .i64 2] from rfl) (Reps.one (show Kd.M (Kd.int .i64) _ _ _ 3 [.int .i64 3] from rfl) (Reps.none _ _)))))); intro v153 w5 ho6 hb hg_ hnew_; clear hg_ hnew_; (first | rw [← Ny152.out] at ho6 | (simp only [Int.reduceToNat] at ho6; rw [← Ny152.out] at ho6)); have n0_ := Aside0.mk (Kd.R_below (byR HO151.out) hb); have n1_ := Aside0.mk (Kd.R_lower ho6 (below_size (byB1 HB.out GE148.out))); have n2_ := Aside0.mk (blk_below (g := gb148) (o := .cells #[.int .i64 0, .slice none 0 0, .slice none 0 0, .slice none 0 0] 27 (0, 0)) (byK BK148.out) hb); have n3_ := Aside0.mk (below_step (byB1 HB.out GE148.out) hb); clear HO151 BK148 HB; have HO151 := n0_; have HO154 := n1_; have BK148 := n2_; have HB := n3_; clear n0_ n1_ n2_ n3_ hb ho6) | ((with_reducible refine gate_dst (N := 8) rfl ?_); refine Kd.R_lit (Kd.int .i64) _ 3 ?hg (N := 8) ?hd (xs := ([1, 1, 1, 1] : List Int)) (inner := [.int .i64 1, .int .i64 1, .int .i64 1, .int .i64 1]) (ok := fun _ => True) (okp := fun _ => True) ?hr ?hp (fun _ hk => hk) trivial (Below.refl _ _) (Nat.le_refl _) (by simp) ?_; (case hd => rfl); (case hg => rfl); (case hr => first | (go_simp; done) | (go_simp; rfl)); (case hp => exact (Reps.one (show Kd.M (Kd.int .i64) _ _ _ 1 [.int .i64 1] from rfl) (Reps.one (show Kd.M (Kd.int .i64) _ _ _ 1 [.int .i64 1] from rfl) (Reps.one (show Kd.M (Kd.int .i64) _ _ _ 1 [.int .i64 1] from rfl) (Reps.one (show Kd.M (Kd.int .i64) _ _ _ 1 [.int .i64 1] from rfl) (Reps.none _ _)))))); intro v156 w7 ho8 hb hg_ hnew_; clear hg_ hnew_; (first | rw [← Ny155.out] at ho8 | (simp only [Int.reduceToNat] at ho8; rw [← Ny155.out] at ho8)); have n0_ := Aside0.mk (Kd.R_below (byR HO151.out) hb); have n1_ := Aside0.mk (Kd.R_elder' (byR HO154.out) (Kd.R_base ho8) hb); have n2_ := Aside0.mk (Kd.R_lower (Kd.R_new' ho8 (Kd.R_lt (byR HO154.out))) (below_size (byB1 HB.out GE148.out))); have n3_ := Aside0.mk (blk_below (g := gb148) (o := .cells #[.int .i64 0, .slice none 0 0, .slice none 0 0, .slice none 0 0] 27 (0, 0)) (byK BK148.out) hb); have n4_ := Aside0.mk (below_step (byB1 HB.out GE148.out) hb); clear HO151 HO154 BK148 HB; have HO151 := n0_; have HO154 := n1_; have HO157 := n2_; have BK148 := n3_; have HB := n4_; clear n0_ n1_ n2_ n3_ n4_ hb ho8; obtain ⟨Ao9, co9, eo9⟩ := Kd.R_slice HO157.out; subst eo9; obtain ⟨Ao10, co10, eo10⟩ := Kd.R_slice HO154.out; subst eo10; have hcz11_0 : w7.cell? ⟨gb148, 0, none⟩ = some (.int .i64 0) := (blk_cell BK148.out 0).trans rfl; have hcz11_1 : w7.cell? ⟨gb148, 1, none⟩ = some (.slice none 0 0) := (blk_cell BK148.out 1).trans rfl; have hcz11_2 : w7.cell? ⟨gb148, 2, none⟩ = some (.slice none 0 0) := (blk_cell BK148.out 2).trans rfl; have hcz11_3 : w7.cell? ⟨gb148, 3, none⟩ = some (.slice none 0 0) := (blk_cell BK148.out 3).trans rfl; have hfz11_0 := blk_frozen BK148.out 0; have hfz11_1 := blk_frozen BK148.out 1; have hfz11_2 := blk_frozen BK148.out 2; have hfz11_3 := blk_frozen BK148.out 3))
 refine bodyPost_ret (results_cell_row rfl _ _ gb148 27 #[.int .i64 4, .slice Ao4 y149.length co4, .slice Ao10 y152.length co10, .slice Ao9 y155.length co9] (0, 0) _ rfl (by (with_reducible repeat (first | refine blk_drewN ?_ _ | refine blk_drew ?_ | refine blk_alloc ?_ _)); refine blk_put (cs := #[.int .i64 4, .slice Ao4 y149.length co4, .slice Ao10 y152.length co10, .slice none 0 0]) ?_ 3 _ rfl; (with_reducible repeat (first | refine blk_drewN ?_ _ | refine blk_drew ?_ | refine blk_alloc ?_ _)); refine blk_put (cs := #[.int .i64 4, .slice Ao4 y149.length co4, .slice none 0 0, .slice none 0 0]) ?_ 2 _ rfl; (with_reducible repeat (first | refine blk_drewN ?_ _ | refine blk_drew ?_ | refine blk_alloc ?_ _)); refine blk_put (cs := #[.int .i64 4, .slice none 0 0, .slice none 0 0, .slice none 0 0]) ?_ 1 _ rfl; (with_reducible repeat (first | refine blk_drewN ?_ _ | refine blk_drew ?_ | refine blk_alloc ?_ _)); refine blk_put (cs := #[.int .i64 0, .slice none 0 0, .slice none 0 0, .slice none 0 0]) ?_ 0 _ rfl; (with_reducible repeat (first | refine blk_drewN ?_ _ | refine blk_drew ?_ | refine blk_alloc ?_ _)); exact BK148.out) Try.underlying27 rfl (by kernel_rfl)) rfl ?_
 exact ⟨_, _, _, byE, by (with_reducible repeat (first | apply Kd.R_alloc | apply Kd.R_drewN | apply Kd.R_drew)); exact Kd.R_mono (Kd.R_far (p := ⟨gb148, 3, none⟩) (Kd.R_far (p := ⟨gb148, 2, none⟩) (Kd.R_far (p := ⟨gb148, 1, none⟩) (Kd.R_far (p := ⟨gb148, 0, none⟩) (Kd.R_types HO151.out BK148.out (by decide)) (fun _ hk => hk.2) (.int .i64 4)) (fun _ hk => hk.2) (.slice Ao4 y149.length co4)) (fun _ hk => hk.2) (.slice Ao10 y152.length co10)) (fun _ hk => hk.2) (.slice Ao9 y155.length co9)) (fun _ hk => trivial), by (with_reducible repeat (first | apply Kd.R_alloc | apply Kd.R_drewN | apply Kd.R_drew)); exact Kd.R_mono (Kd.R_far (p := ⟨gb148, 3, none⟩) (Kd.R_far (p := ⟨gb148, 2, none⟩) (Kd.R_far (p := ⟨gb148, 1, none⟩) (Kd.R_far (p := ⟨gb148, 0, none⟩) (Kd.R_types HO154.out BK148.out (by decide)) (fun _ hk => hk.2) (.int .i64 4)) (fun _ hk => hk.2) (.slice Ao4 y149.length co4)) (fun _ hk => hk.2) (.slice Ao10 y152.length co10)) (fun _ hk => hk.2) (.slice Ao9 y155.length co9)) (fun _ hk => hk.1.2), by (with_reducible repeat (first | apply Kd.R_alloc | apply Kd.R_drewN | apply Kd.R_drew)); exact Kd.R_mono (Kd.R_far (p := ⟨gb148, 3, none⟩) (Kd.R_far (p := ⟨gb148, 2, none⟩) (Kd.R_far (p := ⟨gb148, 1, none⟩) (Kd.R_far (p := ⟨gb148, 0, none⟩) (Kd.R_types HO157.out BK148.out (by decide)) (fun _ hk => hk.2) (.int .i64 4)) (fun _ hk => hk.2) (.slice Ao4 y149.length co4)) (fun _ hk => hk.2) (.slice Ao10 y152.length co10)) (fun _ hk => hk.2) (.slice Ao9 y155.length co9)) (fun _ hk => hk.1.2), byB1 HB.out GE148.out⟩
end Go.Proofs.Ytfnophaiamkmpaa.Print
