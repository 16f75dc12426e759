/- Written by a program of this claim's author (xprint.py, over the kit's print.py): the call of mapmaker/mapmakerlaw47.TurnsFrees comes to what the Lean function of its name says. -/
import Derived.Test.YtaodlehnfjalnaaPrint0
import Derived.Test.YtaodlehnfjalnaaM0
import Derived.Test.YtaodlehnfjalnaaM3
import Derived.Test.YtaodlehnfjalnaaF20
import Derived.Test.YtaodlehnfjalnaaF21
import Derived.Test.YtaodlehnfjalnaaF22
import Derived.Test.YtaodlehnfjalnaaM13
import Derived.Test.YtaodlehnfjalnaaM14
import Derived.Test.YtaodlehnfjalnaaM9
import Derived.Test.YtaodlehnfjalnaaM16
import Derived.Test.YtaodlehnfjalnaaOpen
namespace Go.Proofs.Ytaodlehnfjalnaa.Print
open Go.RowKit Go.Proofs.YtaodlehnfjalnaaW.PrintWords Go.Proofs.YtaodlehnfjalnaaW.PrintLast Go.Proofs.YtaodlehnfjalnaaW.PrintMore
attribute [local go_sem] max2_int min2_int max_two min_two max_three min_three max_four min_four   -- for this text's walks alone
set_option linter.unusedVariables false
set_option linter.unusedSimpArgs false
/-! ### mapmakerlaw47_TurnsFrees: function 5 -/
mutual
def mapmakerlaw47_TurnsFrees.j0 : Nat → List (S42) → List Int → Int → Bool → List Int → List (S158) → List (S58) → Int → Int → Int → Bool → Option (Bool)
 | 0, _, _, _, _, _, _, _, _, _, _, _ => none
 | k + 1, x1, x3, x4, x53, x415000, x415001, x415002, x416000, x416001, x416002, x416003 => if x53 = true then ((mapmakerlaw47_lives.f).bind fun t418 => (some t418)) else ((turns_Weights.f k x415000 x415001 x415002 ([] : List (S42)) x3).bind fun bt419 => (if bt419.2 = 0 then (if ([] : List (S42)).length + x1.length < 4398046511104 then ((some (([] : List (S42)) ++ x1 : List (S42))).bind fun y424 => (if y424.length < 4398046511104 then ((some (y424 ++ [(⟨x416000, x416001, x416002, false⟩ : S42)] : List (S42))).bind fun y427 => ((turns_Expand.f x415000 x415001 x415002 ([] : List (S42))).bind fun bt430 => ((turns_Source.f k x415000 x415001 x415002 x4).bind fun t434 => ((mapmakerref38_From.f k bt430.1 bt430.2 bt419.1 t434).bind fun bt435 => ((mapmakerref46_Graph.f k x415000 x415001 x415002).bind fun bt439 => ((mapmakerref38_From.f k bt439.1 bt439.2 x3 x4).bind fun bt443 => (if bt435.2 = 0 then (mapmakerlaw47_TurnsFrees.j1 k x1 x4 y427 bt435.1 bt443.1 (bt443.2 != 0) x415000 x415001 x415002 x416000 x416001 x416002 false) else (mapmakerlaw47_TurnsFrees.j1 k x1 x4 y427 bt435.1 bt443.1 true x415000 x415001 x415002 x416000 x416001 x416002 false)))))))) else (none))) else (none)) else ((mapmakerlaw47_lives.f).bind fun t423 => (some t423))))
def mapmakerlaw47_TurnsFrees.j1 : Nat → List (S42) → Int → List (S42) → List Int → List Int → Bool → List Int → List (S158) → List (S58) → Int → Int → Int → Bool → Option (Bool)
 | 0, _, _, _, _, _, _, _, _, _, _, _, _, _ => none
 | k + 1, x1, x4, x13, x14, x16, x95, x415000, x415001, x415002, x416000, x416001, x416002, x416003 => if x95 = true then (some false) else (mapmakerlaw47_TurnsFrees.l0 k x1 x4 x13 x14 x16 (x415000.length : Int) 0 x415000 x415001 x415002 x416000 x416001 x416002 x416003)
def mapmakerlaw47_TurnsFrees.l0 : Nat → List (S42) → Int → List (S42) → List Int → List Int → Int → Int → List Int → List (S158) → List (S58) → Int → Int → Int → Bool → Option (Bool)
 | 0, _, _, _, _, _, _, _, _, _, _, _, _, _, _ => none
 | k + 1, x1, x4, x13, x14, x16, x98, x99, x415000, x415001, x415002, x416000, x416001, x416002, x416003 => if x99 < x98 then ((turns_Target.f k x415000 x415001 x415002 x99).bind fun t447 => (if t447 < 0 then (some false) else (if t447 ≥ (x14.length : Int) then (some false) else (if x99 = x4 then (mapmakerlaw47_TurnsFrees.l0 k x1 x4 x13 x14 x16 x98 (wrap64 (x99 + 1)) x415000 x415001 x415002 x416000 x416001 x416002 x416003) else (if 0 ≤ t447 then (if t447 < (x14.length : Int) then (if 0 ≤ x99 then (if x99 < (x16.length : Int) then (if (rd x14 t447) < (rd x16 x99) then (some false) else (mapmakerlaw47_TurnsFrees.l0 k x1 x4 x13 x14 x16 x98 (wrap64 (x99 + 1)) x415000 x415001 x415002 x416000 x416001 x416002 x416003)) else (none)) else (none)) else (none)) else (none)))))) else (mapmakerlaw47_TurnsFrees.l1 k x1 x13 (x415002.length : Int) 0 x415000 x415001 x415002 x416000 x416001 x416002 x416003)
def mapmakerlaw47_TurnsFrees.l1 : Nat → List (S42) → List (S42) → Int → Int → List Int → List (S158) → List (S58) → Int → Int → Int → Bool → Option (Bool)
 | 0, _, _, _, _, _, _, _, _, _, _, _ => none
 | k + 1, x1, x13, x132, x133, x415000, x415001, x415002, x416000, x416001, x416002, x416003 => if x133 < x132 then (mapmakerlaw47_TurnsFrees.l2 k x1 x13 x133 x132 x133 (x415002.length : Int) 0 x415000 x415001 x415002 x416000 x416001 x416002 x416003) else ((mapmakerlaw47_lives.f).bind fun t450 => (some t450))
def mapmakerlaw47_TurnsFrees.l2 : Nat → List (S42) → List (S42) → Int → Int → Int → Int → Int → List Int → List (S158) → List (S58) → Int → Int → Int → Bool → Option (Bool)
 | 0, _, _, _, _, _, _, _, _, _, _, _, _, _, _ => none
 | k + 1, x1, x13, x20, x132, x133, x138, x139, x415000, x415001, x415002, x416000, x416001, x416002, x416003 => if x139 < x138 then ((turns_Allowed.f x415000 x415001 x415002 x1 x20 x139).bind fun t451 => ((turns_Allowed.f x415000 x415001 x415002 x13 x20 x139).bind fun t452 => (if t452 = true then (if t451 = true then (if 0 ≤ x20 then (if x20 < (x415002.length : Int) then (if 0 ≤ ((rd_T58 x415002 x20).f1) then (if ((rd_T58 x415002 x20).f1) < (x415000.length : Int) then (if x416001 = (rd x415000 ((rd_T58 x415002 x20).f1)) then (mapmakerlaw47_TurnsFrees.l2 k x1 x13 x20 x132 x133 x138 (wrap64 (x139 + 1)) x415000 x415001 x415002 x416000 x416001 x416002 x416003) else (if (t451 != t452) = true then (some false) else (mapmakerlaw47_TurnsFrees.l2 k x1 x13 x20 x132 x133 x138 (wrap64 (x139 + 1)) x415000 x415001 x415002 x416000 x416001 x416002 x416003))) else (none)) else (none)) else (none)) else (none)) else (some false)) else (if 0 ≤ x20 then (if x20 < (x415002.length : Int) then (if 0 ≤ ((rd_T58 x415002 x20).f1) then (if ((rd_T58 x415002 x20).f1) < (x415000.length : Int) then (if x416001 = (rd x415000 ((rd_T58 x415002 x20).f1)) then (mapmakerlaw47_TurnsFrees.l2 k x1 x13 x20 x132 x133 x138 (wrap64 (x139 + 1)) x415000 x415001 x415002 x416000 x416001 x416002 x416003) else (if (t451 != t452) = true then (some false) else (mapmakerlaw47_TurnsFrees.l2 k x1 x13 x20 x132 x133 x138 (wrap64 (x139 + 1)) x415000 x415001 x415002 x416000 x416001 x416002 x416003))) else (none)) else (none)) else (none)) else (none))))) else (mapmakerlaw47_TurnsFrees.l1 k x1 x13 x132 (wrap64 (x133 + 1)) x415000 x415001 x415002 x416000 x416001 x416002 x416003)
end
def mapmakerlaw47_TurnsFrees.f (k : Nat) (l0_0 : List Int) (l0_1 : List (S158)) (l0_2 : List (S58)) (l1 : List (S42)) (a2_0 : Int) (a2_1 : Int) (a2_2 : Int) (a2_3 : Bool) (l3 : List Int) (a4 : Int) : Option (Bool) := (mapmakerlaw47_few.f k l0_0 l0_1 l0_2 l1).bind fun t416 => (if t416 = true then (if (l1.length : Int) > 19 then (mapmakerlaw47_TurnsFrees.j0 k l1 l3 a4 true l0_0 l0_1 l0_2 a2_0 a2_1 a2_2 a2_3) else (if (l3.length : Int) > 60 then (mapmakerlaw47_TurnsFrees.j0 k l1 l3 a4 true l0_0 l0_1 l0_2 a2_0 a2_1 a2_2 a2_3) else ((mapmakerref46_Check.f k l0_0 l0_1 l0_2).bind fun t417 => (if t417 = 0 then (if a4 < 0 then (mapmakerlaw47_TurnsFrees.j0 k l1 l3 a4 true l0_0 l0_1 l0_2 a2_0 a2_1 a2_2 a2_3) else (mapmakerlaw47_TurnsFrees.j0 k l1 l3 a4 (decide (a4 ≥ (l0_0.length : Int))) l0_0 l0_1 l0_2 a2_0 a2_1 a2_2 a2_3)) else (mapmakerlaw47_TurnsFrees.j0 k l1 l3 a4 true l0_0 l0_1 l0_2 a2_0 a2_1 a2_2 a2_3))))) else (mapmakerlaw47_TurnsFrees.j0 k l1 l3 a4 true l0_0 l0_1 l0_2 a2_0 a2_1 a2_2 a2_3))
def mapmakerlaw47_TurnsFrees.T10 : Bool × List (List Nat × List Nat) := (true, [([], []), ([0], [0]), ([], []), ([], []), ([], []), ([3, 4, 1], [3, 4]), ([1, 2, 5, 5], [1, 2, 5]), ([6], [6]), ([7], [7]), ([7], [7]), ([8, 6, 0, 1, 2, 3, 4, 5, 6, 7, 8], [8]), ([9, 10, 0, 1, 2, 3, 4, 5, 6, 7, 8, 9, 10], [9])])
def mapmakerlaw47_TurnsFrees.B10 : List Nat := [0, 1, 0, 0, 0, 27, 63, 127, 255, 255, 511, 2047]
theorem mapmakerlaw47_TurnsFrees.tab10 : rtab .any (opsOf Try.f5 10) = mapmakerlaw47_TurnsFrees.T10 := by kernel_rfl
theorem mapmakerlaw47_TurnsFrees.bits10 : waitsOk mapmakerlaw47_TurnsFrees.T10.2 mapmakerlaw47_TurnsFrees.B10 = true := by kernel_rfl
def mapmakerlaw47_TurnsFrees.T18 : Bool × List (List Nat × List Nat) := (true, [([], []), ([0], [0]), ([1], [1]), ([2], [2]), ([2], [2]), ([4, 2], [2, 4]), ([3, 5, 2], [2, 3, 5]), ([2, 6], [2, 6]), ([7, 2], [7]), ([8], [8]), ([8], [8]), ([9, 10, 8], [8, 9, 10]), ([11, 8, 8], [8, 11]), ([12], [12]), ([12], [12]), ([13, 14, 12], [12, 13, 14]), ([15, 12], [12, 15]), ([12], [12]), ([12], [12]), ([17, 18, 12], [12, 17, 18]), ([19, 12], [12, 19]), ([16, 20, 12], [12, 16, 20]), ([12, 21, 8], [8, 12, 21]), ([8, 22], [8, 22])])
def mapmakerlaw47_TurnsFrees.B18 : List Nat := [0, 1, 3, 7, 7, 23, 63, 127, 255, 511, 511, 2047, 4095, 8191, 8191, 32767, 65535, 8191, 8191, 401407, 925695, 2097151, 4194303, 8388607]
theorem mapmakerlaw47_TurnsFrees.tab18 : rtab .any (opsOf Try.f5 18) = mapmakerlaw47_TurnsFrees.T18 := by kernel_rfl
theorem mapmakerlaw47_TurnsFrees.bits18 : waitsOk mapmakerlaw47_TurnsFrees.T18.2 mapmakerlaw47_TurnsFrees.B18 = true := by kernel_rfl
def mapmakerlaw47_TurnsFrees.T27 : Bool × List (List Nat × List Nat) := (true, [([], []), ([], []), ([], []), ([], []), ([0, 1, 2, 3], [0, 1, 2, 3]), ([], []), ([], []), ([], []), ([], []), ([5, 6, 7, 8, 4], [5, 6, 7, 8]), ([4, 9, 0, 1, 2, 3, 4], [4]), ([9, 10, 0, 1, 2, 3, 4, 5, 6, 7, 8, 9, 10], [9])])
def mapmakerlaw47_TurnsFrees.B27 : List Nat := [0, 0, 0, 0, 15, 0, 0, 0, 0, 511, 1023, 2047]
theorem mapmakerlaw47_TurnsFrees.tab27 : rtab .any (opsOf Try.f5 27) = mapmakerlaw47_TurnsFrees.T27 := by kernel_rfl
theorem mapmakerlaw47_TurnsFrees.bits27 : waitsOk mapmakerlaw47_TurnsFrees.T27.2 mapmakerlaw47_TurnsFrees.B27 = true := by kernel_rfl
def mapmakerlaw47_TurnsFrees.T28 : Bool × List (List Nat × List Nat) := (true, [([], []), ([0], [0]), ([1], [1]), ([2, 1], [1, 2]), ([1, 3], [1, 3]), ([4, 1], [4]), ([5], [5]), ([6, 5], [5, 6]), ([5], [5]), ([8, 5], [5, 8]), ([5], [5]), ([10, 5], [5, 10]), ([5], [5]), ([11, 12, 5], [5, 11, 12]), ([13, 5], [5, 13]), ([14, 5], [5, 14]), ([9, 15, 5], [5, 9, 15]), ([16, 5], [5, 16]), ([7, 17, 5], [5, 7, 17]), ([18, 5, 5], [5, 18]), ([19], [19]), ([19], [19]), ([20, 21, 19], [19, 20, 21]), ([19, 22, 5], [5, 19, 22]), ([5, 23], [5, 23])])
def mapmakerlaw47_TurnsFrees.B28 : List Nat := [0, 1, 3, 7, 15, 31, 63, 127, 63, 319, 63, 1087, 63, 7231, 15423, 31807, 65343, 130879, 262143, 524287, 1048575, 1048575, 4194303, 8388607, 16777215]
theorem mapmakerlaw47_TurnsFrees.tab28 : rtab .any (opsOf Try.f5 28) = mapmakerlaw47_TurnsFrees.T28 := by kernel_rfl
theorem mapmakerlaw47_TurnsFrees.bits28 : waitsOk mapmakerlaw47_TurnsFrees.T28.2 mapmakerlaw47_TurnsFrees.B28 = true := by kernel_rfl
set_option maxHeartbeats 8000000 in
set_option maxRecDepth 100000 in
theorem mapmakerlaw47_TurnsFrees.calls (k : Nat) (A0_0 : Option Addr) (c0_0 : Nat) (l0_0 : List Int) (A0_1 : Option Addr) (c0_1 : Nat) (l0_1 : List (S158)) (A0_2 : Option Addr) (c0_2 : Nat) (l0_2 : List (S58)) (A1 : Option Addr) (c1 : Nat) (l1 : List (S42)) (a2_0 : Int) (a2_1 : Int) (a2_2 : Int) (a2_3 : Bool) (A3 : Option Addr) (c3 : Nat) (l3 : List Int) (a4 : Int) (r : Bool) (w : World) (hr0_0 : Kd.C (Kd.int .i64) w A0_0 l0_0.length l0_0) (hc0_0 : l0_0.length ≤ c0_0) (hr0_1 : Kd.C k158 w A0_1 l0_1.length l0_1) (hc0_1 : l0_1.length ≤ c0_1) (hr0_2 : Kd.C k58 w A0_2 l0_2.length l0_2) (hc0_2 : l0_2.length ≤ c0_2) (hr1 : Kd.C k42 w A1 l1.length l1) (hc1 : l1.length ≤ c1) (hr3 : Kd.C (Kd.int .i64) w A3 l3.length l3) (hc3 : l3.length ≤ c3) (h : mapmakerlaw47_TurnsFrees.f k l0_0 l0_1 l0_2 l1 a2_0 a2_1 a2_2 a2_3 l3 a4 = some r) :
  Calls Try.prog 5 #[.agg #[.slice A0_0 l0_0.length c0_0, .slice A0_1 l0_1.length c0_1, .slice A0_2 l0_2.length c0_2], .slice A1 l1.length c1, .agg #[.int .i64 a2_0, .int .i64 a2_1, .int .i64 a2_2, .bool a2_3], .slice A3 l3.length c3, .int .i64 a4] w fun e w' => e = .returned (.bool r) ∧ Below w.heap.size w w' := by
 have hu37 := Try.underlying37; have hu42 := Try.underlying42; have HR0_0 := Aside0.mk hr0_0; have HC0_0 := Aside0.mk hc0_0; clear hr0_0 hc0_0; have HR0_1 := Aside0.mk hr0_1; have HC0_1 := Aside0.mk hc0_1; clear hr0_1 hc0_1; have HR0_2 := Aside0.mk hr0_2; have HC0_2 := Aside0.mk hc0_2; clear hr0_2 hc0_2; have HR1 := Aside0.mk hr1; have HC1 := Aside0.mk hc1; clear hr1 hc1; have HR3 := Aside0.mk hr3; have HC3 := Aside0.mk hc3; clear hr3 hc3; have HB := Aside0.mk (Below.refl w.heap.size w)
 have H : ((mapmakerlaw47_few.f k l0_0 l0_1 l0_2 l1).bind fun t416 => (if t416 = true then (if (l1.length : Int) > 19 then (mapmakerlaw47_TurnsFrees.j0 k l1 l3 a4 true l0_0 l0_1 l0_2 a2_0 a2_1 a2_2 a2_3) else (if (l3.length : Int) > 60 then (mapmakerlaw47_TurnsFrees.j0 k l1 l3 a4 true l0_0 l0_1 l0_2 a2_0 a2_1 a2_2 a2_3) else ((mapmakerref46_Check.f k l0_0 l0_1 l0_2).bind fun t417 => (if t417 = 0 then (if a4 < 0 then (mapmakerlaw47_TurnsFrees.j0 k l1 l3 a4 true l0_0 l0_1 l0_2 a2_0 a2_1 a2_2 a2_3) else (mapmakerlaw47_TurnsFrees.j0 k l1 l3 a4 (decide (a4 ≥ (l0_0.length : Int))) l0_0 l0_1 l0_2 a2_0 a2_1 a2_2 a2_3)) else (mapmakerlaw47_TurnsFrees.j0 k l1 l3 a4 true l0_0 l0_1 l0_2 a2_0 a2_1 a2_2 a2_3))))) else (mapmakerlaw47_TurnsFrees.j0 k l1 l3 a4 true l0_0 l0_1 l0_2 a2_0 a2_1 a2_2 a2_3))) = some r := h
 clear h; have HC6 := Aside0.mk H; clear H
 go_enter Try.func5, Try.ntmps5
 go_upto_region 1 with (first | ((with_reducible refine gate_dst (N := 5) rfl ?_); (try (refine gate_guard (by rfl) ?_; dsimp only)); refine box_event ?hg (N := 5) ?hd (cs := #[.slice A0_0 l0_0.length c0_0, .slice A0_1 l0_1.length c0_1, .slice A0_2 l0_2.length c0_2]) (t := 37) ?hr ?_; (case hd => rfl); (case hg => rfl); (case hr => first | (go_simp; done) | (go_simp; rfl)); intro gb414 hg w7 hbox hb; have n0_ := Aside0.mk (below_step (byB HB.out) hb); have n1_ := Aside0.mk (hbox); have n2_ := Aside0.mk ((by rw [hg]; exact (below_size (byB HB.out)) : w.heap.size ≤ gb414)); have n3_ := Aside0.mk ((by rw [hg]; exact (below_size (byB HB.out)) : w.heap.size ≤ gb414)); clear HB; have HB := n0_; have BK414 := n1_; have GW414 := n2_; have GE414 := n3_; clear n0_ n1_ n2_ n3_ hb hbox hg) | ((with_reducible refine gate_dst (N := 7) rfl ?_); (try (refine gate_guard (by rfl) ?_; dsimp only)); refine box_event ?hg (N := 7) ?hd (cs := #[.int .i64 a2_0, .int .i64 a2_1, .int .i64 a2_2, .bool a2_3]) (t := 42) ?hr ?_; (case hd => rfl); (case hg => rfl); (case hr => first | (go_simp; done) | (go_simp; rfl)); intro gb415 hg w8 hbox hb; have n0_ := Aside0.mk (blk_below (g := gb414) (o := .cells #[.slice A0_0 l0_0.length c0_0, .slice A0_1 l0_1.length c0_1, .slice A0_2 l0_2.length c0_2] 37 (0, 0)) (byK BK414.out) hb); have n1_ := Aside0.mk (below_step (byB1 HB.out GE414.out) hb); have n2_ := Aside0.mk (hbox); have n3_ := Aside0.mk ((by rw [hg]; exact (below_size (byB1 HB.out GE414.out)) : w.heap.size ≤ gb415)); have n4_ := Aside0.mk ((by rw [hg]; exact (below_size (byB1 HB.out GE414.out)) : w.heap.size ≤ gb415)); have n5_ := Aside0.mk ((by rw [hg]; exact Nat.ne_of_lt (blk_lt (g := gb414) (o := .cells #[.slice A0_0 l0_0.length c0_0, .slice A0_1 l0_1.length c0_1, .slice A0_2 l0_2.length c0_2] 37 (0, 0)) (byK BK414.out)) : gb414 ≠ gb415)); have n6_ := Aside0.mk ((by rw [hg]; exact Nat.ne_of_gt (blk_lt (g := gb414) (o := .cells #[.slice A0_0 l0_0.length c0_0, .slice A0_1 l0_1.length c0_1, .slice A0_2 l0_2.length c0_2] 37 (0, 0)) (byK BK414.out)) : gb415 ≠ gb414)); clear BK414 HB; have BK414 := n0_; have HB := n1_; have BK415 := n2_; have GW415 := n3_; have GE415 := n4_; have NB414_415 := n5_; have NB415_414 := n6_; clear n0_ n1_ n2_ n3_ n4_ n5_ n6_ hb hbox hg))
 (try simp only [Act.put, List.setIfInBounds_toArray, List.set_cons_zero, List.set_cons_succ])
 go_cut [53] (fun v53 wc => ∃ (kq : Nat) (x53_5 : Bool), v53 = .bool x53_5 ∧ Aside0 (mapmakerlaw47_TurnsFrees.j0 kq l1 l3 a4 x53_5 l0_0 l0_1 l0_2 a2_0 a2_1 a2_2 a2_3 = some r) ∧ Aside0 (kq ≤ k) ∧ Aside0 (wc.heap[gb414]? = some (.cells #[(.slice A0_0 l0_0.length c0_0), (.slice A0_1 l0_1.length c0_1), (.slice A0_2 l0_2.length c0_2)] 37 (0, 0))) ∧ Aside0 (wc.heap[gb415]? = some (.cells #[.int .i64 a2_0, .int .i64 a2_1, .int .i64 a2_2, .bool a2_3] 42 (0, 0))) ∧ Aside0 (Below w.heap.size w wc))
 case first =>
  have H := HC6.out; clear HC6
  replace H := Option.bind_eq_some_iff.mp H
  obtain ⟨t416, A90, H⟩ := H
  replace H : (if t416 = true then (if (l1.length : Int) > 19 then (mapmakerlaw47_TurnsFrees.j0 k l1 l3 a4 true l0_0 l0_1 l0_2 a2_0 a2_1 a2_2 a2_3) else (if (l3.length : Int) > 60 then (mapmakerlaw47_TurnsFrees.j0 k l1 l3 a4 true l0_0 l0_1 l0_2 a2_0 a2_1 a2_2 a2_3) else ((mapmakerref46_Check.f k l0_0 l0_1 l0_2).bind fun t417 => (if t417 = 0 then (if a4 < 0 then (mapmakerlaw47_TurnsFrees.j0 k l1 l3 a4 true l0_0 l0_1 l0_2 a2_0 a2_1 a2_2 a2_3) else (mapmakerlaw47_TurnsFrees.j0 k l1 l3 a4 (decide (a4 ≥ (l0_0.length : Int))) l0_0 l0_1 l0_2 a2_0 a2_1 a2_2 a2_3)) else (mapmakerlaw47_TurnsFrees.j0 k l1 l3 a4 true l0_0 l0_1 l0_2 a2_0 a2_1 a2_2 a2_3))))) else (mapmakerlaw47_TurnsFrees.j0 k l1 l3 a4 true l0_0 l0_1 l0_2 a2_0 a2_1 a2_2 a2_3)) = some r := H
  have A9 := Aside0.mk A90; clear A90
  by_cases c10 : t416 = true
  ·subst c10
   have H1 : (if (l1.length : Int) > 19 then (mapmakerlaw47_TurnsFrees.j0 k l1 l3 a4 true l0_0 l0_1 l0_2 a2_0 a2_1 a2_2 a2_3) else (if (l3.length : Int) > 60 then (mapmakerlaw47_TurnsFrees.j0 k l1 l3 a4 true l0_0 l0_1 l0_2 a2_0 a2_1 a2_2 a2_3) else ((mapmakerref46_Check.f k l0_0 l0_1 l0_2).bind fun t417 => (if t417 = 0 then (if a4 < 0 then (mapmakerlaw47_TurnsFrees.j0 k l1 l3 a4 true l0_0 l0_1 l0_2 a2_0 a2_1 a2_2 a2_3) else (mapmakerlaw47_TurnsFrees.j0 k l1 l3 a4 (decide (a4 ≥ (l0_0.length : Int))) l0_0 l0_1 l0_2 a2_0 a2_1 a2_2 a2_3)) else (mapmakerlaw47_TurnsFrees.j0 k l1 l3 a4 true l0_0 l0_1 l0_2 a2_0 a2_1 a2_2 a2_3))))) = some r := by rw [if_pos rfl] at H; exact H
   clear H; have H := H1; clear H1
   by_cases c11 : (l1.length : Int) > 19
   ·rw [if_pos c11] at H
    have c11b0 : decide (19 < (l1.length : Int)) = true := decide_eq_true c11
    have c11b1 : decide (19 < l1.length) = true := decide_eq_true (by omega)
    clear c11
    (first | rw [c11b0] | (simp only [i64_w, i32_w]; rw [c11b0]) | skip)
    have H' := Aside0.mk H
    clear H; have hnb12 := NB414_415.out; have hnc12 := NB415_414.out
    have hcz13_0 : w8.cell? ⟨gb414, 0, none⟩ = some (.slice A0_0 l0_0.length c0_0) := (blk_cell BK414.out 0).trans rfl
    have hcz13_1 : w8.cell? ⟨gb414, 1, none⟩ = some (.slice A0_1 l0_1.length c0_1) := (blk_cell BK414.out 1).trans rfl
    have hcz13_2 : w8.cell? ⟨gb414, 2, none⟩ = some (.slice A0_2 l0_2.length c0_2) := (blk_cell BK414.out 2).trans rfl
    have hfz13_0 := blk_frozen BK414.out 0; have hfz13_1 := blk_frozen BK414.out 1; have hfz13_2 := blk_frozen BK414.out 2
    go_wp2_with (first | ((with_reducible refine gate_callee (f := 13) rfl ?_); refine goesL_ (some 26) rfl rfl Try.func13 (by kernel_rfl) rfl #[.agg #[.slice A0_0 l0_0.length c0_0, .slice A0_1 l0_1.length c0_1, .slice A0_2 l0_2.length c0_2], .slice A1 l1.length c1] rfl byL ?_; (with_reducible refine (mapmakerlaw47_few.calls k _ _ l0_0 _ _ l0_1 _ _ l0_2 _ _ l1 true _ ?side1 ?side2 ?side3 ?side4 ?side5 ?side6 ?side7 ?side8 A9.out).mono ?_); (case side1 => exact byC (Kd.C_below HR0_0.out HB.out)); (case side2 => exact HC0_0.out); (case side3 => exact byC (Kd.C_below HR0_1.out HB.out)); (case side4 => exact HC0_1.out); (case side5 => exact byC (Kd.C_below HR0_2.out HB.out)); (case side6 => exact HC0_2.out); (case side7 => exact byC (Kd.C_below HR1.out HB.out)); (case side8 => exact HC1.out); rintro e w14 ⟨rfl, hb⟩; refine ⟨_, rfl, ?_⟩; have n0_ := Aside0.mk (blk_below (g := gb414) (o := .cells #[.slice A0_0 l0_0.length c0_0, .slice A0_1 l0_1.length c0_1, .slice A0_2 l0_2.length c0_2] 37 (0, 0)) (byK BK414.out) hb); have n1_ := Aside0.mk (blk_below (g := gb415) (o := .cells #[.int .i64 a2_0, .int .i64 a2_1, .int .i64 a2_2, .bool a2_3] 42 (0, 0)) (byK BK415.out) hb); have n2_ := Aside0.mk (below_step (byB2 HB.out GE414.out GE415.out) hb); clear BK414 BK415 HB; have BK414 := n0_; have BK415 := n1_; have HB := n2_; clear n0_ n1_ n2_; (try clear hb); (try clear hb2); (try clear hk); (try clear hi)))
    go_meet
    case rel => exact ⟨_, (true), byF, H', ⟨by first | omega | exact Nat.le_refl _⟩, ⟨by (with_reducible repeat (first | refine blk_drewN ?_ _ | refine blk_drew ?_ | refine blk_alloc ?_ _)); exact BK414.out⟩, ⟨by (with_reducible repeat (first | refine blk_drewN ?_ _ | refine blk_drew ?_ | refine blk_alloc ?_ _)); exact BK415.out⟩, ⟨byB2 HB.out GE414.out GE415.out⟩⟩
   ·rw [if_neg c11] at H
    have c11b0 : decide (19 < (l1.length : Int)) = false := decide_eq_false c11
    have c11b1 : decide (19 < l1.length) = false := decide_eq_false (by omega)
    clear c11
    (first | rw [c11b0] | (simp only [i64_w, i32_w]; rw [c11b0]) | skip)
    by_cases c15 : (l3.length : Int) > 60
    ·rw [if_pos c15] at H
     have c15b0 : decide (60 < (l3.length : Int)) = true := decide_eq_true c15
     have c15b1 : decide (60 < l3.length) = true := decide_eq_true (by omega)
     clear c15
     have H' := Aside0.mk H
     clear H; have hnb16 := NB414_415.out; have hnc16 := NB415_414.out
     have hcz17_0 : w8.cell? ⟨gb414, 0, none⟩ = some (.slice A0_0 l0_0.length c0_0) := (blk_cell BK414.out 0).trans rfl
     have hcz17_1 : w8.cell? ⟨gb414, 1, none⟩ = some (.slice A0_1 l0_1.length c0_1) := (blk_cell BK414.out 1).trans rfl
     have hcz17_2 : w8.cell? ⟨gb414, 2, none⟩ = some (.slice A0_2 l0_2.length c0_2) := (blk_cell BK414.out 2).trans rfl
     have hfz17_0 := blk_frozen BK414.out 0; have hfz17_1 := blk_frozen BK414.out 1; have hfz17_2 := blk_frozen BK414.out 2
     go_wp2_with (first | ((with_reducible refine gate_callee (f := 13) rfl ?_); refine goesL_ (some 26) rfl rfl Try.func13 (by kernel_rfl) rfl #[.agg #[.slice A0_0 l0_0.length c0_0, .slice A0_1 l0_1.length c0_1, .slice A0_2 l0_2.length c0_2], .slice A1 l1.length c1] rfl byL ?_; (with_reducible refine (mapmakerlaw47_few.calls k _ _ l0_0 _ _ l0_1 _ _ l0_2 _ _ l1 true _ ?side1 ?side2 ?side3 ?side4 ?side5 ?side6 ?side7 ?side8 A9.out).mono ?_); (case side1 => exact byC (Kd.C_below HR0_0.out HB.out)); (case side2 => exact HC0_0.out); (case side3 => exact byC (Kd.C_below HR0_1.out HB.out)); (case side4 => exact HC0_1.out); (case side5 => exact byC (Kd.C_below HR0_2.out HB.out)); (case side6 => exact HC0_2.out); (case side7 => exact byC (Kd.C_below HR1.out HB.out)); (case side8 => exact HC1.out); rintro e w18 ⟨rfl, hb⟩; refine ⟨_, rfl, ?_⟩; have n0_ := Aside0.mk (blk_below (g := gb414) (o := .cells #[.slice A0_0 l0_0.length c0_0, .slice A0_1 l0_1.length c0_1, .slice A0_2 l0_2.length c0_2] 37 (0, 0)) (byK BK414.out) hb); have n1_ := Aside0.mk (blk_below (g := gb415) (o := .cells #[.int .i64 a2_0, .int .i64 a2_1, .int .i64 a2_2, .bool a2_3] 42 (0, 0)) (byK BK415.out) hb); have n2_ := Aside0.mk (below_step (byB2 HB.out GE414.out GE415.out) hb); clear BK414 BK415 HB; have BK414 := n0_; have BK415 := n1_; have HB := n2_; clear n0_ n1_ n2_; (try clear hb); (try clear hb2); (try clear hk); (try clear hi)))
     go_meet
     case rel => exact ⟨_, (true), byF, H', ⟨by first | omega | exact Nat.le_refl _⟩, ⟨by (with_reducible repeat (first | refine blk_drewN ?_ _ | refine blk_drew ?_ | refine blk_alloc ?_ _)); exact BK414.out⟩, ⟨by (with_reducible repeat (first | refine blk_drewN ?_ _ | refine blk_drew ?_ | refine blk_alloc ?_ _)); exact BK415.out⟩, ⟨byB2 HB.out GE414.out GE415.out⟩⟩
    ·rw [if_neg c15] at H
     have c15b0 : decide (60 < (l3.length : Int)) = false := decide_eq_false c15
     have c15b1 : decide (60 < l3.length) = false := decide_eq_false (by omega)
     clear c15
     replace H := Option.bind_eq_some_iff.mp H
     obtain ⟨t417, A190, H⟩ := H
     replace H : (if t417 = 0 then (if a4 < 0 then (mapmakerlaw47_TurnsFrees.j0 k l1 l3 a4 true l0_0 l0_1 l0_2 a2_0 a2_1 a2_2 a2_3) else (mapmakerlaw47_TurnsFrees.j0 k l1 l3 a4 (decide (a4 ≥ (l0_0.length : Int))) l0_0 l0_1 l0_2 a2_0 a2_1 a2_2 a2_3)) else (mapmakerlaw47_TurnsFrees.j0 k l1 l3 a4 true l0_0 l0_1 l0_2 a2_0 a2_1 a2_2 a2_3)) = some r := H
     have A19 := Aside0.mk A190; clear A190
     by_cases c20 : t417 = 0
     ·rw [if_pos c20] at H
      have c20b0 : (t417 == 0) = true := beq_iff_eq.mpr c20
      have c20b1 : (t417 != 0) = false := bne_eq_false_iff_eq.mpr c20
      clear c20
      by_cases c21 : a4 < 0
      ·rw [if_pos c21] at H
       have c21b0 : decide (a4 < 0) = true := decide_eq_true c21
       clear c21
       have H' := Aside0.mk H
       clear H; have hnb22 := NB414_415.out; have hnc22 := NB415_414.out
       have hcz23_0 : w8.cell? ⟨gb414, 0, none⟩ = some (.slice A0_0 l0_0.length c0_0) := (blk_cell BK414.out 0).trans rfl
       have hcz23_1 : w8.cell? ⟨gb414, 1, none⟩ = some (.slice A0_1 l0_1.length c0_1) := (blk_cell BK414.out 1).trans rfl
       have hcz23_2 : w8.cell? ⟨gb414, 2, none⟩ = some (.slice A0_2 l0_2.length c0_2) := (blk_cell BK414.out 2).trans rfl
       have hfz23_0 := blk_frozen BK414.out 0; have hfz23_1 := blk_frozen BK414.out 1; have hfz23_2 := blk_frozen BK414.out 2
       go_wp2_with (first | ((with_reducible refine gate_callee (f := 13) rfl ?_); refine goesL_ (some 26) rfl rfl Try.func13 (by kernel_rfl) rfl #[.agg #[.slice A0_0 l0_0.length c0_0, .slice A0_1 l0_1.length c0_1, .slice A0_2 l0_2.length c0_2], .slice A1 l1.length c1] rfl byL ?_; (with_reducible refine (mapmakerlaw47_few.calls k _ _ l0_0 _ _ l0_1 _ _ l0_2 _ _ l1 true _ ?side1 ?side2 ?side3 ?side4 ?side5 ?side6 ?side7 ?side8 A9.out).mono ?_); (case side1 => exact byC (Kd.C_below HR0_0.out HB.out)); (case side2 => exact HC0_0.out); (case side3 => exact byC (Kd.C_below HR0_1.out HB.out)); (case side4 => exact HC0_1.out); (case side5 => exact byC (Kd.C_below HR0_2.out HB.out)); (case side6 => exact HC0_2.out); (case side7 => exact byC (Kd.C_below HR1.out HB.out)); (case side8 => exact HC1.out); rintro e w24 ⟨rfl, hb⟩; refine ⟨_, rfl, ?_⟩; have n0_ := Aside0.mk (blk_below (g := gb414) (o := .cells #[.slice A0_0 l0_0.length c0_0, .slice A0_1 l0_1.length c0_1, .slice A0_2 l0_2.length c0_2] 37 (0, 0)) (byK BK414.out) hb); have n1_ := Aside0.mk (blk_below (g := gb415) (o := .cells #[.int .i64 a2_0, .int .i64 a2_1, .int .i64 a2_2, .bool a2_3] 42 (0, 0)) (byK BK415.out) hb); have n2_ := Aside0.mk (below_step (byB2 HB.out GE414.out GE415.out) hb); clear BK414 BK415 HB; have BK414 := n0_; have BK415 := n1_; have HB := n2_; clear n0_ n1_ n2_; (try clear hb); (try clear hb2); (try clear hk); (try clear hi); have hcz25_0 : w24.cell? ⟨gb414, 0, none⟩ = some (.slice A0_0 l0_0.length c0_0) := (blk_cell BK414.out 0).trans rfl; have hcz25_1 : w24.cell? ⟨gb414, 1, none⟩ = some (.slice A0_1 l0_1.length c0_1) := (blk_cell BK414.out 1).trans rfl; have hcz25_2 : w24.cell? ⟨gb414, 2, none⟩ = some (.slice A0_2 l0_2.length c0_2) := (blk_cell BK414.out 2).trans rfl; have hfz25_0 := blk_frozen BK414.out 0; have hfz25_1 := blk_frozen BK414.out 1; have hfz25_2 := blk_frozen BK414.out 2) | (go_at_call 20; (with_reducible refine (mapmakerref46_Check.calls k _ _ l0_0 _ _ l0_1 _ _ l0_2 t417 _ ?side1 ?side2 ?side3 ?side4 ?side5 ?side6 A19.out).mono ?_); (case side1 => exact byC (Kd.C_below HR0_0.out HB.out)); (case side2 => exact HC0_0.out); (case side3 => exact byC (Kd.C_below HR0_1.out HB.out)); (case side4 => exact HC0_1.out); (case side5 => exact byC (Kd.C_below HR0_2.out HB.out)); (case side6 => exact HC0_2.out); rintro e w26 ⟨rfl, hb⟩; have n0_ := Aside0.mk (blk_below (g := gb414) (o := .cells #[.slice A0_0 l0_0.length c0_0, .slice A0_1 l0_1.length c0_1, .slice A0_2 l0_2.length c0_2] 37 (0, 0)) (byK BK414.out) hb); have n1_ := Aside0.mk (blk_below (g := gb415) (o := .cells #[.int .i64 a2_0, .int .i64 a2_1, .int .i64 a2_2, .bool a2_3] 42 (0, 0)) (byK BK415.out) hb); have n2_ := Aside0.mk (below_step (byB2 HB.out GE414.out GE415.out) hb); clear BK414 BK415 HB; have BK414 := n0_; have BK415 := n1_; have HB := n2_; clear n0_ n1_ n2_; (try clear hb); (try clear hb2); (try clear hk); (try clear hi)))
       go_meet
       case rel => exact ⟨_, (true), byF, H', ⟨by first | omega | exact Nat.le_refl _⟩, ⟨by (with_reducible repeat (first | refine blk_drewN ?_ _ | refine blk_drew ?_ | refine blk_alloc ?_ _)); exact BK414.out⟩, ⟨by (with_reducible repeat (first | refine blk_drewN ?_ _ | refine blk_drew ?_ | refine blk_alloc ?_ _)); exact BK415.out⟩, ⟨byB2 HB.out GE414.out GE415.out⟩⟩
      ·rw [if_neg c21] at H
       have c21b0 : decide (a4 < 0) = false := decide_eq_false c21
       clear c21
       have H' := Aside0.mk H
       clear H; have hnb27 := NB414_415.out; have hnc27 := NB415_414.out
       have hcz28_0 : w8.cell? ⟨gb414, 0, none⟩ = some (.slice A0_0 l0_0.length c0_0) := (blk_cell BK414.out 0).trans rfl
       have hcz28_1 : w8.cell? ⟨gb414, 1, none⟩ = some (.slice A0_1 l0_1.length c0_1) := (blk_cell BK414.out 1).trans rfl
       have hcz28_2 : w8.cell? ⟨gb414, 2, none⟩ = some (.slice A0_2 l0_2.length c0_2) := (blk_cell BK414.out 2).trans rfl
       have hfz28_0 := blk_frozen BK414.out 0; have hfz28_1 := blk_frozen BK414.out 1; have hfz28_2 := blk_frozen BK414.out 2
       go_wp2_with (first | ((with_reducible refine gate_callee (f := 13) rfl ?_); refine goesL_ (some 26) rfl rfl Try.func13 (by kernel_rfl) rfl #[.agg #[.slice A0_0 l0_0.length c0_0, .slice A0_1 l0_1.length c0_1, .slice A0_2 l0_2.length c0_2], .slice A1 l1.length c1] rfl byL ?_; (with_reducible refine (mapmakerlaw47_few.calls k _ _ l0_0 _ _ l0_1 _ _ l0_2 _ _ l1 true _ ?side1 ?side2 ?side3 ?side4 ?side5 ?side6 ?side7 ?side8 A9.out).mono ?_); (case side1 => exact byC (Kd.C_below HR0_0.out HB.out)); (case side2 => exact HC0_0.out); (case side3 => exact byC (Kd.C_below HR0_1.out HB.out)); (case side4 => exact HC0_1.out); (case side5 => exact byC (Kd.C_below HR0_2.out HB.out)); (case side6 => exact HC0_2.out); (case side7 => exact byC (Kd.C_below HR1.out HB.out)); (case side8 => exact HC1.out); rintro e w29 ⟨rfl, hb⟩; refine ⟨_, rfl, ?_⟩; have n0_ := Aside0.mk (blk_below (g := gb414) (o := .cells #[.slice A0_0 l0_0.length c0_0, .slice A0_1 l0_1.length c0_1, .slice A0_2 l0_2.length c0_2] 37 (0, 0)) (byK BK414.out) hb); have n1_ := Aside0.mk (blk_below (g := gb415) (o := .cells #[.int .i64 a2_0, .int .i64 a2_1, .int .i64 a2_2, .bool a2_3] 42 (0, 0)) (byK BK415.out) hb); have n2_ := Aside0.mk (below_step (byB2 HB.out GE414.out GE415.out) hb); clear BK414 BK415 HB; have BK414 := n0_; have BK415 := n1_; have HB := n2_; clear n0_ n1_ n2_; (try clear hb); (try clear hb2); (try clear hk); (try clear hi); have hcz30_0 : w29.cell? ⟨gb414, 0, none⟩ = some (.slice A0_0 l0_0.length c0_0) := (blk_cell BK414.out 0).trans rfl; have hcz30_1 : w29.cell? ⟨gb414, 1, none⟩ = some (.slice A0_1 l0_1.length c0_1) := (blk_cell BK414.out 1).trans rfl; have hcz30_2 : w29.cell? ⟨gb414, 2, none⟩ = some (.slice A0_2 l0_2.length c0_2) := (blk_cell BK414.out 2).trans rfl; have hfz30_0 := blk_frozen BK414.out 0; have hfz30_1 := blk_frozen BK414.out 1; have hfz30_2 := blk_frozen BK414.out 2) | (go_at_call 20; (with_reducible refine (mapmakerref46_Check.calls k _ _ l0_0 _ _ l0_1 _ _ l0_2 t417 _ ?side1 ?side2 ?side3 ?side4 ?side5 ?side6 A19.out).mono ?_); (case side1 => exact byC (Kd.C_below HR0_0.out HB.out)); (case side2 => exact HC0_0.out); (case side3 => exact byC (Kd.C_below HR0_1.out HB.out)); (case side4 => exact HC0_1.out); (case side5 => exact byC (Kd.C_below HR0_2.out HB.out)); (case side6 => exact HC0_2.out); rintro e w31 ⟨rfl, hb⟩; have n0_ := Aside0.mk (blk_below (g := gb414) (o := .cells #[.slice A0_0 l0_0.length c0_0, .slice A0_1 l0_1.length c0_1, .slice A0_2 l0_2.length c0_2] 37 (0, 0)) (byK BK414.out) hb); have n1_ := Aside0.mk (blk_below (g := gb415) (o := .cells #[.int .i64 a2_0, .int .i64 a2_1, .int .i64 a2_2, .bool a2_3] 42 (0, 0)) (byK BK415.out) hb); have n2_ := Aside0.mk (below_step (byB2 HB.out GE414.out GE415.out) hb); clear BK414 BK415 HB; have BK414 := n0_; have BK415 := n1_; have HB := n2_; clear n0_ n1_ n2_; (try clear hb); (try clear hb2); (try clear hk); (try clear hi); have hcz32_0 : w31.cell? ⟨gb414, 0, none⟩ = some (.slice A0_0 l0_0.length c0_0) := (blk_cell BK414.out 0).trans rfl; have hcz32_1 : w31.cell? ⟨gb414, 1, none⟩ = some (.slice A0_1 l0_1.length c0_1) := (blk_cell BK414.out 1).trans rfl; have hcz32_2 : w31.cell? ⟨gb414, 2, none⟩ = some (.slice A0_2 l0_2.length c0_2) := (blk_cell BK414.out 2).trans rfl; have hfz32_0 := blk_frozen BK414.out 0; have hfz32_1 := blk_frozen BK414.out 1; have hfz32_2 := blk_frozen BK414.out 2))
       go_meet
       case rel => exact ⟨_, (decide (a4 ≥ (l0_0.length : Int))), byF, H', ⟨by first | omega | exact Nat.le_refl _⟩, ⟨by (with_reducible repeat (first | refine blk_drewN ?_ _ | refine blk_drew ?_ | refine blk_alloc ?_ _)); exact BK414.out⟩, ⟨by (with_reducible repeat (first | refine blk_drewN ?_ _ | refine blk_drew ?_ | refine blk_alloc ?_ _)); exact BK415.out⟩, ⟨byB2 HB.out GE414.out GE415.out⟩⟩
     ·rw [if_neg c20] at H
      have c20b0 : (t417 == 0) = false := beq_eq_false_iff_ne.mpr c20
      have c20b1 : (t417 != 0) = true := bne_iff_ne.mpr c20
      have H' := Aside0.mk H
      clear H; have hnb33 := NB414_415.out; have hnc33 := NB415_414.out
      have hcz34_0 : w8.cell? ⟨gb414, 0, none⟩ = some (.slice A0_0 l0_0.length c0_0) := (blk_cell BK414.out 0).trans rfl
      have hcz34_1 : w8.cell? ⟨gb414, 1, none⟩ = some (.slice A0_1 l0_1.length c0_1) := (blk_cell BK414.out 1).trans rfl
      have hcz34_2 : w8.cell? ⟨gb414, 2, none⟩ = some (.slice A0_2 l0_2.length c0_2) := (blk_cell BK414.out 2).trans rfl
      have hfz34_0 := blk_frozen BK414.out 0; have hfz34_1 := blk_frozen BK414.out 1; have hfz34_2 := blk_frozen BK414.out 2
      go_wp2_with (first | ((with_reducible refine gate_callee (f := 13) rfl ?_); refine goesL_ (some 26) rfl rfl Try.func13 (by kernel_rfl) rfl #[.agg #[.slice A0_0 l0_0.length c0_0, .slice A0_1 l0_1.length c0_1, .slice A0_2 l0_2.length c0_2], .slice A1 l1.length c1] rfl byL ?_; (with_reducible refine (mapmakerlaw47_few.calls k _ _ l0_0 _ _ l0_1 _ _ l0_2 _ _ l1 true _ ?side1 ?side2 ?side3 ?side4 ?side5 ?side6 ?side7 ?side8 A9.out).mono ?_); (case side1 => exact byC (Kd.C_below HR0_0.out HB.out)); (case side2 => exact HC0_0.out); (case side3 => exact byC (Kd.C_below HR0_1.out HB.out)); (case side4 => exact HC0_1.out); (case side5 => exact byC (Kd.C_below HR0_2.out HB.out)); (case side6 => exact HC0_2.out); (case side7 => exact byC (Kd.C_below HR1.out HB.out)); (case side8 => exact HC1.out); rintro e w35 ⟨rfl, hb⟩; refine ⟨_, rfl, ?_⟩; have n0_ := Aside0.mk (blk_below (g := gb414) (o := .cells #[.slice A0_0 l0_0.length c0_0, .slice A0_1 l0_1.length c0_1, .slice A0_2 l0_2.length c0_2] 37 (0, 0)) (byK BK414.out) hb); have n1_ := Aside0.mk (blk_below (g := gb415) (o := .cells #[.int .i64 a2_0, .int .i64 a2_1, .int .i64 a2_2, .bool a2_3] 42 (0, 0)) (byK BK415.out) hb); have n2_ := Aside0.mk (below_step (byB2 HB.out GE414.out GE415.out) hb); clear BK414 BK415 HB; have BK414 := n0_; have BK415 := n1_; have HB := n2_; clear n0_ n1_ n2_; (try clear hb); (try clear hb2); (try clear hk); (try clear hi); have hcz36_0 : w35.cell? ⟨gb414, 0, none⟩ = some (.slice A0_0 l0_0.length c0_0) := (blk_cell BK414.out 0).trans rfl; have hcz36_1 : w35.cell? ⟨gb414, 1, none⟩ = some (.slice A0_1 l0_1.length c0_1) := (blk_cell BK414.out 1).trans rfl; have hcz36_2 : w35.cell? ⟨gb414, 2, none⟩ = some (.slice A0_2 l0_2.length c0_2) := (blk_cell BK414.out 2).trans rfl; have hfz36_0 := blk_frozen BK414.out 0; have hfz36_1 := blk_frozen BK414.out 1; have hfz36_2 := blk_frozen BK414.out 2) | (go_at_call 20; (with_reducible refine (mapmakerref46_Check.calls k _ _ l0_0 _ _ l0_1 _ _ l0_2 t417 _ ?side1 ?side2 ?side3 ?side4 ?side5 ?side6 A19.out).mono ?_); (case side1 => exact byC (Kd.C_below HR0_0.out HB.out)); (case side2 => exact HC0_0.out); (case side3 => exact byC (Kd.C_below HR0_1.out HB.out)); (case side4 => exact HC0_1.out); (case side5 => exact byC (Kd.C_below HR0_2.out HB.out)); (case side6 => exact HC0_2.out); rintro e w37 ⟨rfl, hb⟩; have n0_ := Aside0.mk (blk_below (g := gb414) (o := .cells #[.slice A0_0 l0_0.length c0_0, .slice A0_1 l0_1.length c0_1, .slice A0_2 l0_2.length c0_2] 37 (0, 0)) (byK BK414.out) hb); have n1_ := Aside0.mk (blk_below (g := gb415) (o := .cells #[.int .i64 a2_0, .int .i64 a2_1, .int .i64 a2_2, .bool a2_3] 42 (0, 0)) (byK BK415.out) hb); have n2_ := Aside0.mk (below_step (byB2 HB.out GE414.out GE415.out) hb); clear BK414 BK415 HB; have BK414 := n0_; have BK415 := n1_; have HB := n2_; clear n0_ n1_ n2_; (try clear hb); (try clear hb2); (try clear hk); (try clear hi)))
      go_meet
      case rel => exact ⟨_, (true), byF, H', ⟨by first | omega | exact Nat.le_refl _⟩, ⟨by (with_reducible repeat (first | refine blk_drewN ?_ _ | refine blk_drew ?_ | refine blk_alloc ?_ _)); exact BK414.out⟩, ⟨by (with_reducible repeat (first | refine blk_drewN ?_ _ | refine blk_drew ?_ | refine blk_alloc ?_ _)); exact BK415.out⟩, ⟨byB2 HB.out GE414.out GE415.out⟩⟩
  ·replace c10 := Bool.eq_false_iff.mpr c10
   subst c10
   have H1 : (mapmakerlaw47_TurnsFrees.j0 k l1 l3 a4 true l0_0 l0_1 l0_2 a2_0 a2_1 a2_2 a2_3) = some r := by rw [if_neg (show ¬ (false = true) by decide)] at H; exact H
   clear H; have H := H1; clear H1
   have H' := Aside0.mk H
   clear H; have hnb38 := NB414_415.out; have hnc38 := NB415_414.out
   have hcz39_0 : w8.cell? ⟨gb414, 0, none⟩ = some (.slice A0_0 l0_0.length c0_0) := (blk_cell BK414.out 0).trans rfl
   have hcz39_1 : w8.cell? ⟨gb414, 1, none⟩ = some (.slice A0_1 l0_1.length c0_1) := (blk_cell BK414.out 1).trans rfl
   have hcz39_2 : w8.cell? ⟨gb414, 2, none⟩ = some (.slice A0_2 l0_2.length c0_2) := (blk_cell BK414.out 2).trans rfl
   have hfz39_0 := blk_frozen BK414.out 0; have hfz39_1 := blk_frozen BK414.out 1; have hfz39_2 := blk_frozen BK414.out 2
   go_wp2_with (first | ((with_reducible refine gate_callee (f := 13) rfl ?_); refine goesL_ (some 26) rfl rfl Try.func13 (by kernel_rfl) rfl #[.agg #[.slice A0_0 l0_0.length c0_0, .slice A0_1 l0_1.length c0_1, .slice A0_2 l0_2.length c0_2], .slice A1 l1.length c1] rfl byL ?_; (with_reducible refine (mapmakerlaw47_few.calls k _ _ l0_0 _ _ l0_1 _ _ l0_2 _ _ l1 false _ ?side1 ?side2 ?side3 ?side4 ?side5 ?side6 ?side7 ?side8 A9.out).mono ?_); (case side1 => exact byC (Kd.C_below HR0_0.out HB.out)); (case side2 => exact HC0_0.out); (case side3 => exact byC (Kd.C_below HR0_1.out HB.out)); (case side4 => exact HC0_1.out); (case side5 => exact byC (Kd.C_below HR0_2.out HB.out)); (case side6 => exact HC0_2.out); (case side7 => exact byC (Kd.C_below HR1.out HB.out)); (case side8 => exact HC1.out); rintro e w40 ⟨rfl, hb⟩; refine ⟨_, rfl, ?_⟩; have n0_ := Aside0.mk (blk_below (g := gb414) (o := .cells #[.slice A0_0 l0_0.length c0_0, .slice A0_1 l0_1.length c0_1, .slice A0_2 l0_2.length c0_2] 37 (0, 0)) (byK BK414.out) hb); have n1_ := Aside0.mk (blk_below (g := gb415) (o := .cells #[.int .i64 a2_0, .int .i64 a2_1, .int .i64 a2_2, .bool a2_3] 42 (0, 0)) (byK BK415.out) hb); have n2_ := Aside0.mk (below_step (byB2 HB.out GE414.out GE415.out) hb); clear BK414 BK415 HB; have BK414 := n0_; have BK415 := n1_; have HB := n2_; clear n0_ n1_ n2_; (try clear hb); (try clear hb2); (try clear hk); (try clear hi)))
   go_meet
   case rel => exact ⟨_, (true), byF, H', ⟨by first | omega | exact Nat.le_refl _⟩, ⟨by (with_reducible repeat (first | refine blk_drewN ?_ _ | refine blk_drew ?_ | refine blk_alloc ?_ _)); exact BK414.out⟩, ⟨by (with_reducible repeat (first | refine blk_drewN ?_ _ | refine blk_drew ?_ | refine blk_alloc ?_ _)); exact BK415.out⟩, ⟨byB2 HB.out GE414.out GE415.out⟩⟩
 case rest =>
  clear HC6
  try clear c1
  try clear c2
  try clear p2
  try clear c3
  try clear c5
  try clear c10
  try clear c11
  try clear c11b0
  try clear c11b1
  try clear c12
  try clear c13
  try clear c15
  try clear c15b0
  try clear c15b1
  try clear c16
  try clear c20
  try clear c20b0
  try clear c20b1
  try clear c21
  try clear c21b0
  try clear c22
  try clear c27
  try clear c33
  try clear c38
  try clear hcz13_0
  try clear hcz13_1
  try clear hcz13_2
  try clear hcz17_0
  try clear hcz17_1
  try clear hcz17_2
  try clear hcz23_0
  try clear hcz23_1
  try clear hcz23_2
  try clear hcz25_0
  try clear hcz25_1
  try clear hcz25_2
  try clear hcz28_0
  try clear hcz28_1
  try clear hcz28_2
  try clear hcz30_0
  try clear hcz30_1
  try clear hcz30_2
  try clear hcz32_0
  try clear hcz32_1
  try clear hcz32_2
  try clear hcz34_0
  try clear hcz34_1
  try clear hcz34_2
  try clear hcz36_0
  try clear hcz36_1
  try clear hcz36_2
  try clear hcz39_0
  try clear hcz39_1
  try clear hcz39_2
  try clear hfz13_0
  try clear hfz13_1
  try clear hfz13_2
  try clear hfz17_0
  try clear hfz17_1
  try clear hfz17_2
  try clear hfz23_0
  try clear hfz23_1
  try clear hfz23_2
  try clear hfz25_0
  try clear hfz25_1
  try clear hfz25_2
  try clear hfz28_0
  try clear hfz28_1
  try clear hfz28_2
  try clear hfz30_0
  try clear hfz30_1
  try clear hfz30_2
  try clear hfz32_0
  try clear hfz32_1
  try clear hfz32_2
  try clear hfz34_0
  try clear hfz34_1
  try clear hfz34_2
  try clear hfz36_0
  try clear hfz36_1
  try clear hfz36_2
  try clear hfz39_0
  try clear hfz39_1
  try clear hfz39_2
  obtain ⟨kq, x53_5, rfl, HA, HJ5, BK414, BK415, HB⟩ := hcut
  cases kq with
  | zero => exact absurd HA.out (by simp [mapmakerlaw47_TurnsFrees.j0])
  | succ kj5 =>
   have H := HA.out; clear HA
   simp only [mapmakerlaw47_TurnsFrees.j0] at H
   by_cases c41 : x53_5 = true
   ·subst c41
    have H1 : ((mapmakerlaw47_lives.f).bind fun t418 => (some t418)) = some r := by rw [if_pos rfl] at H; exact H
    clear H; have H := H1; clear H1
    replace H := Option.bind_eq_some_iff.mp H
    obtain ⟨t418, A420, H⟩ := H
    replace H : (some t418) = some r := H
    have A42 := Aside0.mk A420; clear A420
    obtain rfl := Option.some.inj H
    go_wp2_with (first | ((with_reducible refine gate_callee (f := 9) rfl ?_); refine goesL_ (some 54) rfl rfl Try.func9 (by kernel_rfl) rfl #[] rfl byL ?_; (with_reducible refine (mapmakerlaw47_lives.calls  t418 _ A42.out).mono ?_); rintro e w43 ⟨rfl, hb⟩; refine ⟨_, rfl, ?_⟩; have n0_ := Aside0.mk (blk_below (g := gb414) (o := .cells #[.slice A0_0 l0_0.length c0_0, .slice A0_1 l0_1.length c0_1, .slice A0_2 l0_2.length c0_2] 37 (0, 0)) (byK BK414.out) hb); have n1_ := Aside0.mk (blk_below (g := gb415) (o := .cells #[.int .i64 a2_0, .int .i64 a2_1, .int .i64 a2_2, .bool a2_3] 42 (0, 0)) (byK BK415.out) hb); have n2_ := Aside0.mk (below_step (byB2 HB.out GE414.out GE415.out) hb); clear BK414 BK415 HB; have BK414 := n0_; have BK415 := n1_; have HB := n2_; clear n0_ n1_ n2_; (try clear hb); (try clear hb2); (try clear hk); (try clear hi)))
    go_ret
    exact ⟨byE, byB2 HB.out GE414.out GE415.out⟩
   ·replace c41 := Bool.eq_false_iff.mpr c41
    subst c41
    have H1 : ((turns_Weights.f kj5 l0_0 l0_1 l0_2 ([] : List (S42)) l3).bind fun bt419 => (if bt419.2 = 0 then (if ([] : List (S42)).length + l1.length < 4398046511104 then ((some (([] : List (S42)) ++ l1 : List (S42))).bind fun y424 => (if y424.length < 4398046511104 then ((some (y424 ++ [(⟨a2_0, a2_1, a2_2, false⟩ : S42)] : List (S42))).bind fun y427 => ((turns_Expand.f l0_0 l0_1 l0_2 ([] : List (S42))).bind fun bt430 => ((turns_Source.f kj5 l0_0 l0_1 l0_2 a4).bind fun t434 => ((mapmakerref38_From.f kj5 bt430.1 bt430.2 bt419.1 t434).bind fun bt435 => ((mapmakerref46_Graph.f kj5 l0_0 l0_1 l0_2).bind fun bt439 => ((mapmakerref38_From.f kj5 bt439.1 bt439.2 l3 a4).bind fun bt443 => (if bt435.2 = 0 then (mapmakerlaw47_TurnsFrees.j1 kj5 l1 a4 y427 bt435.1 bt443.1 (bt443.2 != 0) l0_0 l0_1 l0_2 a2_0 a2_1 a2_2 false) else (mapmakerlaw47_TurnsFrees.j1 kj5 l1 a4 y427 bt435.1 bt443.1 true l0_0 l0_1 l0_2 a2_0 a2_1 a2_2 false)))))))) else (none))) else (none)) else ((mapmakerlaw47_lives.f).bind fun t423 => (some t423)))) = some r := by rw [if_neg (show ¬ (false = true) by decide)] at H; exact H
    clear H; have H := H1; clear H1
    replace H := Option.bind_eq_some_iff.mp H
    obtain ⟨⟨t419, t422⟩, A440, H⟩ := H
    replace H : (if t422 = 0 then (if ([] : List (S42)).length + l1.length < 4398046511104 then ((some (([] : List (S42)) ++ l1 : List (S42))).bind fun y424 => (if y424.length < 4398046511104 then ((some (y424 ++ [(⟨a2_0, a2_1, a2_2, false⟩ : S42)] : List (S42))).bind fun y427 => ((turns_Expand.f l0_0 l0_1 l0_2 ([] : List (S42))).bind fun bt430 => ((turns_Source.f kj5 l0_0 l0_1 l0_2 a4).bind fun t434 => ((mapmakerref38_From.f kj5 bt430.1 bt430.2 t419 t434).bind fun bt435 => ((mapmakerref46_Graph.f kj5 l0_0 l0_1 l0_2).bind fun bt439 => ((mapmakerref38_From.f kj5 bt439.1 bt439.2 l3 a4).bind fun bt443 => (if bt435.2 = 0 then (mapmakerlaw47_TurnsFrees.j1 kj5 l1 a4 y427 bt435.1 bt443.1 (bt443.2 != 0) l0_0 l0_1 l0_2 a2_0 a2_1 a2_2 false) else (mapmakerlaw47_TurnsFrees.j1 kj5 l1 a4 y427 bt435.1 bt443.1 true l0_0 l0_1 l0_2 a2_0 a2_1 a2_2 false)))))))) else (none))) else (none)) else ((mapmakerlaw47_lives.f).bind fun t423 => (some t423))) = some r := H
    have A44 := Aside0.mk A440; clear A440
    by_cases c45 : t422 = 0
    ·rw [if_pos c45] at H
     have c45b0 : (t422 == 0) = true := beq_iff_eq.mpr c45
     have c45b1 : (t422 != 0) = false := bne_eq_false_iff_eq.mpr c45
     clear c45
     by_cases c46 : ([] : List (S42)).length + l1.length < 4398046511104
     ·rw [if_pos c46] at H
      have LMc46 := Aside0.mk c46; clear c46
      obtain ⟨y424, hy424⟩ : ∃ y_ : List (S42), y_ = (([] : List (S42)) ++ l1) := ⟨_, rfl⟩
      replace H : (if y424.length < 4398046511104 then ((some (y424 ++ [(⟨a2_0, a2_1, a2_2, false⟩ : S42)] : List (S42))).bind fun y427 => ((turns_Expand.f l0_0 l0_1 l0_2 ([] : List (S42))).bind fun bt430 => ((turns_Source.f kj5 l0_0 l0_1 l0_2 a4).bind fun t434 => ((mapmakerref38_From.f kj5 bt430.1 bt430.2 t419 t434).bind fun bt435 => ((mapmakerref46_Graph.f kj5 l0_0 l0_1 l0_2).bind fun bt439 => ((mapmakerref38_From.f kj5 bt439.1 bt439.2 l3 a4).bind fun bt443 => (if bt435.2 = 0 then (mapmakerlaw47_TurnsFrees.j1 kj5 l1 a4 y427 bt435.1 bt443.1 (bt443.2 != 0) l0_0 l0_1 l0_2 a2_0 a2_1 a2_2 false) else (mapmakerlaw47_TurnsFrees.j1 kj5 l1 a4 y427 bt435.1 bt443.1 true l0_0 l0_1 l0_2 a2_0 a2_1 a2_2 false)))))))) else (none)) = some r := by first | (rw [hy424]; with_reducible exact H) | (have H2_ := (Option.bind_some _ _).symm.trans H; rw [hy424]; with_reducible exact H2_) | (have H2_ := (Option.bind_some _ _).symm.trans H; with_reducible exact H2_) | with_reducible exact H | (rw [hy424]; exact H) | exact H
      have Ny424 := Aside0.mk hy424; clear hy424
      by_cases c47 : y424.length < 4398046511104
      ·rw [if_pos c47] at H
       have LMc47 := Aside0.mk c47; clear c47
       obtain ⟨y427, hy427⟩ : ∃ y_ : List (S42), y_ = (y424 ++ [(⟨a2_0, a2_1, a2_2, false⟩ : S42)]) := ⟨_, rfl⟩
       replace H : ((turns_Expand.f l0_0 l0_1 l0_2 ([] : List (S42))).bind fun bt430 => ((turns_Source.f kj5 l0_0 l0_1 l0_2 a4).bind fun t434 => ((mapmakerref38_From.f kj5 bt430.1 bt430.2 t419 t434).bind fun bt435 => ((mapmakerref46_Graph.f kj5 l0_0 l0_1 l0_2).bind fun bt439 => ((mapmakerref38_From.f kj5 bt439.1 bt439.2 l3 a4).bind fun bt443 => (if bt435.2 = 0 then (mapmakerlaw47_TurnsFrees.j1 kj5 l1 a4 y427 bt435.1 bt443.1 (bt443.2 != 0) l0_0 l0_1 l0_2 a2_0 a2_1 a2_2 false) else (mapmakerlaw47_TurnsFrees.j1 kj5 l1 a4 y427 bt435.1 bt443.1 true l0_0 l0_1 l0_2 a2_0 a2_1 a2_2 false))))))) = some r := by first | (rw [hy427]; with_reducible exact H) | (have H2_ := (Option.bind_some _ _).symm.trans H; rw [hy427]; with_reducible exact H2_) | (have H2_ := (Option.bind_some _ _).symm.trans H; with_reducible exact H2_) | with_reducible exact H | (rw [hy427]; exact H) | exact H
       have Ny427 := Aside0.mk hy427; clear hy427
       replace H := Option.bind_eq_some_iff.mp H
       obtain ⟨⟨t430, t431⟩, A480, H⟩ := H
       replace H : ((turns_Source.f kj5 l0_0 l0_1 l0_2 a4).bind fun t434 => ((mapmakerref38_From.f kj5 t430 t431 t419 t434).bind fun bt435 => ((mapmakerref46_Graph.f kj5 l0_0 l0_1 l0_2).bind fun bt439 => ((mapmakerref38_From.f kj5 bt439.1 bt439.2 l3 a4).bind fun bt443 => (if bt435.2 = 0 then (mapmakerlaw47_TurnsFrees.j1 kj5 l1 a4 y427 bt435.1 bt443.1 (bt443.2 != 0) l0_0 l0_1 l0_2 a2_0 a2_1 a2_2 false) else (mapmakerlaw47_TurnsFrees.j1 kj5 l1 a4 y427 bt435.1 bt443.1 true l0_0 l0_1 l0_2 a2_0 a2_1 a2_2 false)))))) = some r := H
       have A48 := Aside0.mk A480; clear A480
       replace H := Option.bind_eq_some_iff.mp H
       obtain ⟨t434, A490, H⟩ := H
       replace H : ((mapmakerref38_From.f kj5 t430 t431 t419 t434).bind fun bt435 => ((mapmakerref46_Graph.f kj5 l0_0 l0_1 l0_2).bind fun bt439 => ((mapmakerref38_From.f kj5 bt439.1 bt439.2 l3 a4).bind fun bt443 => (if bt435.2 = 0 then (mapmakerlaw47_TurnsFrees.j1 kj5 l1 a4 y427 bt435.1 bt443.1 (bt443.2 != 0) l0_0 l0_1 l0_2 a2_0 a2_1 a2_2 false) else (mapmakerlaw47_TurnsFrees.j1 kj5 l1 a4 y427 bt435.1 bt443.1 true l0_0 l0_1 l0_2 a2_0 a2_1 a2_2 false))))) = some r := H
       have A49 := Aside0.mk A490; clear A490
       replace H := Option.bind_eq_some_iff.mp H
       obtain ⟨⟨t435, t438⟩, A500, H⟩ := H
       replace H : ((mapmakerref46_Graph.f kj5 l0_0 l0_1 l0_2).bind fun bt439 => ((mapmakerref38_From.f kj5 bt439.1 bt439.2 l3 a4).bind fun bt443 => (if t438 = 0 then (mapmakerlaw47_TurnsFrees.j1 kj5 l1 a4 y427 t435 bt443.1 (bt443.2 != 0) l0_0 l0_1 l0_2 a2_0 a2_1 a2_2 false) else (mapmakerlaw47_TurnsFrees.j1 kj5 l1 a4 y427 t435 bt443.1 true l0_0 l0_1 l0_2 a2_0 a2_1 a2_2 false)))) = some r := H
       have A50 := Aside0.mk A500; clear A500
       replace H := Option.bind_eq_some_iff.mp H
       obtain ⟨⟨t439, t440⟩, A510, H⟩ := H
       replace H : ((mapmakerref38_From.f kj5 t439 t440 l3 a4).bind fun bt443 => (if t438 = 0 then (mapmakerlaw47_TurnsFrees.j1 kj5 l1 a4 y427 t435 bt443.1 (bt443.2 != 0) l0_0 l0_1 l0_2 a2_0 a2_1 a2_2 false) else (mapmakerlaw47_TurnsFrees.j1 kj5 l1 a4 y427 t435 bt443.1 true l0_0 l0_1 l0_2 a2_0 a2_1 a2_2 false))) = some r := H
       have A51 := Aside0.mk A510; clear A510
       replace H := Option.bind_eq_some_iff.mp H
       obtain ⟨⟨t443, t446⟩, A520, H⟩ := H
       replace H : (if t438 = 0 then (mapmakerlaw47_TurnsFrees.j1 kj5 l1 a4 y427 t435 t443 (t446 != 0) l0_0 l0_1 l0_2 a2_0 a2_1 a2_2 false) else (mapmakerlaw47_TurnsFrees.j1 kj5 l1 a4 y427 t435 t443 true l0_0 l0_1 l0_2 a2_0 a2_1 a2_2 false)) = some r := H
       have A52 := Aside0.mk A520; clear A520; have HC53 := Aside0.mk H; clear H; have hnb54 := NB414_415.out; have hnc54 := NB415_414.out
       have hcz55_0 : wc.cell? ⟨gb414, 0, none⟩ = some (.slice A0_0 l0_0.length c0_0) := (blk_cell BK414.out 0).trans rfl
       have hcz55_1 : wc.cell? ⟨gb414, 1, none⟩ = some (.slice A0_1 l0_1.length c0_1) := (blk_cell BK414.out 1).trans rfl
       have hcz55_2 : wc.cell? ⟨gb414, 2, none⟩ = some (.slice A0_2 l0_2.length c0_2) := (blk_cell BK414.out 2).trans rfl
       have hfz55_0 := blk_frozen BK414.out 0; have hfz55_1 := blk_frozen BK414.out 1; have hfz55_2 := blk_frozen BK414.out 2
       try go_wp2_with (first | ((with_reducible refine gate_callee (f := 21) rfl ?_); refine goesL_ (some 58) rfl rfl Try.func21 (by kernel_rfl) rfl #[.agg #[.slice A0_0 l0_0.length c0_0, .slice A0_1 l0_1.length c0_1, .slice A0_2 l0_2.length c0_2], .slice none 0 0, .slice A3 l3.length c3] rfl byL ?_; (refine (turns_Weights.calls kj5 _ _ l0_0 _ _ l0_1 _ _ l0_2 _ _ ([] : List (S42)) _ _ l3 t419 t422 _ ?side1 ?side2 ?side3 ?side4 ?side5 ?side6 ?side7 ?side8 ?side9 ?side10 A44.out).mono ?_); (case side1 => exact byC (Kd.C_below HR0_0.out HB.out)); (case side2 => exact HC0_0.out); (case side3 => exact byC (Kd.C_below HR0_1.out HB.out)); (case side4 => exact HC0_1.out); (case side5 => exact byC (Kd.C_below HR0_2.out HB.out)); (case side6 => exact HC0_2.out); (case side7 => exact Kd.C_nil _ _); (case side8 => exact Nat.le_refl _); (case side9 => exact byC (Kd.C_below HR3.out HB.out)); (case side10 => exact HC3.out); rintro e w56 ⟨v420, rfl, ho0, hb⟩; refine ⟨_, rfl, ?_⟩; have n0_ := Aside0.mk (Kd.R_lower ho0 (below_size (byB2 HB.out GE414.out GE415.out))); have n1_ := Aside0.mk (blk_below (g := gb414) (o := .cells #[.slice A0_0 l0_0.length c0_0, .slice A0_1 l0_1.length c0_1, .slice A0_2 l0_2.length c0_2] 37 (0, 0)) (byK BK414.out) hb); have n2_ := Aside0.mk (blk_below (g := gb415) (o := .cells #[.int .i64 a2_0, .int .i64 a2_1, .int .i64 a2_2, .bool a2_3] 42 (0, 0)) (byK BK415.out) hb); have n3_ := Aside0.mk (below_step (byB2 HB.out GE414.out GE415.out) hb); clear BK414 BK415 HB; have HO421 := n0_; have BK414 := n1_; have BK415 := n2_; have HB := n3_; clear n0_ n1_ n2_ n3_; (try clear hb); (try clear hb2); (try clear hk); (try clear hi); (try clear ho0); have hcz57_0 : w56.cell? ⟨gb415, 0, none⟩ = some (.int .i64 a2_0) := (blk_cell BK415.out 0).trans rfl; have hcz57_1 : w56.cell? ⟨gb415, 1, none⟩ = some (.int .i64 a2_1) := (blk_cell BK415.out 1).trans rfl; have hcz57_2 : w56.cell? ⟨gb415, 2, none⟩ = some (.int .i64 a2_2) := (blk_cell BK415.out 2).trans rfl; have hcz57_3 : w56.cell? ⟨gb415, 3, none⟩ = some (.bool a2_3) := (blk_cell BK415.out 3).trans rfl; have hfz57_0 := blk_frozen BK415.out 0; have hfz57_1 := blk_frozen BK415.out 1; have hfz57_2 := blk_frozen BK415.out 2; have hfz57_3 := blk_frozen BK415.out 3) | ((with_reducible refine gate_builtin (b := .append) (xs := #[.tmp 65, .tmp 66]) rfl ?_); (try (refine gate_guard (by rfl) ?_; dsimp only)); at_builtin; refine Kd.R_append_rows k42 (w0 := w) w.heap.size rfl (.tmp 65) (.tmp 66) 30 42 (.agg #[(.int .i64 0), (.int .i64 0), (.int .i64 0), (.bool false)]) 32 rfl Try.underlying30 info42 rfl (by decide) (by omega) (.slice none 0 0) ([] : List (S42)) l1 _ _ _ (fun k_ => k_ ≠ gb415) (fun _ => False) rfl rfl ?aO ?aR (fun _ _ h => h) (fun _ h => h.elim) ?aF ?aB ?aS ?aL ?_; (case aR => exact Kd.C_below HR1.out (byB2 HB.out GE414.out GE415.out)); (case aB => exact (byB2 HB.out GE414.out GE415.out)); (case aF => exact (fun k_ hk => Kd.freshB (g := gb415) (o := .cells #[.int .i64 a2_0, .int .i64 a2_1, .int .i64 a2_2, .bool false] 42 (0, 0)) (by (with_reducible repeat (first | refine blk_drewN ?_ _ | refine blk_drew ?_ | refine blk_alloc ?_ _)); refine blk_put (cs := #[.int .i64 a2_0, .int .i64 a2_1, .int .i64 a2_2, .bool a2_3]) ?_ 3 _ rfl; (with_reducible repeat (first | refine blk_drewN ?_ _ | refine blk_drew ?_ | refine blk_alloc ?_ _)); exact BK415.out) k_ hk)); (case aO => exact ((Kd.R_nil _ _ _ _ (fun k_ => k_ ≠ gb415)))); (case aS => exact (below_size (byB2 HB.out GE414.out GE415.out))); (case aL => have := LMc46.out; omega); intro v425 w58 ho hb hg hat; rw [← Ny424.out] at ho; have n0_ := Aside0.mk (blk_grown (g := gb414) (o := .cells #[.slice A0_0 l0_0.length c0_0, .slice A0_1 l0_1.length c0_1, .slice A0_2 l0_2.length c0_2] 37 (0, 0)) (by (with_reducible repeat (first | refine blk_drewN ?_ _ | refine blk_drew ?_ | refine blk_alloc ?_ _)); refine blk_far ?_ NB414_415.out _; (with_reducible repeat (first | refine blk_drewN ?_ _ | refine blk_drew ?_ | refine blk_alloc ?_ _)); exact BK414.out) hg (by simp [Value.ownBlock])); have n1_ := Aside0.mk (blk_grown (g := gb415) (o := .cells #[.int .i64 a2_0, .int .i64 a2_1, .int .i64 a2_2, .bool false] 42 (0, 0)) (by (with_reducible repeat (first | refine blk_drewN ?_ _ | refine blk_drew ?_ | refine blk_alloc ?_ _)); refine blk_put (cs := #[.int .i64 a2_0, .int .i64 a2_1, .int .i64 a2_2, .bool a2_3]) ?_ 3 _ rfl; (with_reducible repeat (first | refine blk_drewN ?_ _ | refine blk_drew ?_ | refine blk_alloc ?_ _)); exact BK415.out) hg (by simp [Value.ownBlock])); have n2_ := Aside0.mk (Kd.R_grown (by (with_reducible repeat (first | apply Kd.R_alloc | apply Kd.R_drewN | apply Kd.R_drew)); exact (Kd.R_mono (Kd.R_far (p := ⟨gb415, 3, none⟩) (Kd.R_types HO421.out BK415.out (by decide)) (fun _ hk => hk.2) (.bool false)) (fun _ h_ => h_.1))) hg (fun _ _ => by simp [Value.ownBlock])); have n3_ := Aside0.mk (hb); have n4_ := Aside0.mk (ho); clear BK414 BK415 HO421 HB; have BK414 := n0_; have BK415 := n1_; have HO421 := n2_; have HB := n3_; have HO426 := n4_; clear n0_ n1_ n2_ n3_ n4_ ho hb hg hat; have hcz59_0 : w58.cell? ⟨gb415, 0, none⟩ = some (.int .i64 a2_0) := (blk_cell BK415.out 0).trans rfl; have hcz59_1 : w58.cell? ⟨gb415, 1, none⟩ = some (.int .i64 a2_1) := (blk_cell BK415.out 1).trans rfl; have hcz59_2 : w58.cell? ⟨gb415, 2, none⟩ = some (.int .i64 a2_2) := (blk_cell BK415.out 2).trans rfl; have hcz59_3 : w58.cell? ⟨gb415, 3, none⟩ = some (.bool false) := (blk_cell BK415.out 3).trans rfl; have hfz59_0 := blk_frozen BK415.out 0; have hfz59_1 := blk_frozen BK415.out 1; have hfz59_2 := blk_frozen BK415.out 2; have hfz59_3 := blk_frozen BK415.out 3) | ((with_reducible refine gate_builtin (b := .append) (xs := #[.tmp 68, .tmp 70]) rfl ?_); (try (refine gate_guard (by rfl) ?_; dsimp only)); at_builtin; refine Kd.R_append k42 (w0 := w) w.heap.size rfl (.tmp 68) (.tmp 70) 30 42 (.agg #[(.int .i64 0), (.int .i64 0), (.int .i64 0), (.bool false)]) 32 rfl Try.underlying30 info42 rfl (by decide) (by omega) v425 y424 (⟨a2_0, a2_1, a2_2, false⟩ : S42) [.int .i64 a2_0, .int .i64 a2_1, .int .i64 a2_2, .bool false] (fun k_ => k_ ≠ gb415) (fun _ => False) rfl rfl ?aP (fun _ hk => hk.elim) ?aF ?aO ?aB ?aS ?aL ?_; (case aP => exact k42_mkM _ _ _ (⟨a2_0, a2_1, a2_2, false⟩ : S42)); (case aB => exact (byB2 HB.out GE414.out GE415.out)); (case aF => exact (fun k_ hk => Kd.freshB (g := gb415) (o := .cells #[.int .i64 a2_0, .int .i64 a2_1, .int .i64 a2_2, .bool false] 42 (0, 0)) (byK BK415.out) k_ hk)); (case aO => exact (byR HO426.out)); (case aS => exact (below_size (byB2 HB.out GE414.out GE415.out))); (case aL => have := LMc47.out; omega); intro v428 w60 ho hb hg hat; rw [← Ny427.out] at ho; have n0_ := Aside0.mk (blk_grown (g := gb414) (o := .cells #[.slice A0_0 l0_0.length c0_0, .slice A0_1 l0_1.length c0_1, .slice A0_2 l0_2.length c0_2] 37 (0, 0)) (byK BK414.out) hg (Kd.R_ne HO426.out BK414.out (by decide))); have n1_ := Aside0.mk (blk_grown (g := gb415) (o := .cells #[.int .i64 a2_0, .int .i64 a2_1, .int .i64 a2_2, .bool false] 42 (0, 0)) (byK BK415.out) hg (Kd.R_away HO426.out (fun _ hk => hk))); have n2_ := Aside0.mk (Kd.R_over' (byR HO421.out) (Kd.R_typed (byR HO426.out)) (by decide) hg); have n3_ := Aside0.mk (hb); have n4_ := Aside0.mk (ho); clear BK414 BK415 HO421 HB HO426; have BK414 := n0_; have BK415 := n1_; have HO421 := n2_; have HB := n3_; have HO429 := n4_; clear n0_ n1_ n2_ n3_ n4_ ho hb hg hat))
       have n0_ := Aside0.mk (Kd.R_drew HO421.out); have n1_ := Aside0.mk (Kd.R_drew HO429.out); have n2_ := Aside0.mk (blk_drew BK414.out); have n3_ := Aside0.mk (blk_drew BK415.out); have n4_ := Aside0.mk (below_drew1 HB.out); clear HO421 HO429 BK414 BK415 HB; have HO421 := n0_; have HO429 := n1_; have BK414 := n2_; have BK415 := n3_; have HB := n4_; clear n0_ n1_ n2_ n3_ n4_
       refine start_ (n := 12) (S := fun w' => w'.cell? ⟨gb414, 0, none⟩ = some (.slice A0_0 l0_0.length c0_0) ∧ w'.cell? ⟨gb414, 1, none⟩ = some (.slice A0_1 l0_1.length c0_1) ∧ w'.cell? ⟨gb414, 2, none⟩ = some (.slice A0_2 l0_2.length c0_2)) (ds := []) (bits 12 0) (by kernel_rfl) rfl rfl ⟨(blk_cell BK414.out 0).trans rfl, (blk_cell BK414.out 1).trans rfl, (blk_cell BK414.out 2).trans rfl⟩ (fun hHeld => ?_); refine with_tabW mapmakerlaw47_TurnsFrees.tab10 mapmakerlaw47_TurnsFrees.bits10 (fun HT_ HW_ => ?_)
       generalize w60.drew = w61 at HO421 HO429 BK414 BK415 HB hHeld ⊢
       refine q_ 2 75 HT_ ?_; refine q_ 4 77 HT_ ?_; refine r3_ 0 73 HT_ HW_ hHeld ?_; refine r3_ 3 76 HT_ HW_ hHeld ?_; refine one_ (i := 1) (N := some 74) (bits 12 31) rfl rfl (one_of HT_.out (by kernel_rfl)) (by decide) (fun K hK => ?_)
       refine goes_ Try.func23 (by kernel_rfl) rfl #[.agg #[.slice A0_0 l0_0.length c0_0, .slice A0_1 l0_1.length c0_1, .slice A0_2 l0_2.length c0_2], .slice none 0 0] (by rfl) rfl rfl byL ?_
       refine (turns_Expand.calls _ _ l0_0 _ _ l0_1 _ _ l0_2 _ _ ([] : List (S42)) t430 t431 _ ?side1 ?side2 ?side3 ?side4 ?side5 ?side6 ?side7 ?side8 A48.out).mono ?_
       (case side1 => exact byC (Kd.C_below HR0_0.out HB.out))
       (case side2 => exact HC0_0.out)
       (case side3 => exact byC (Kd.C_below HR0_1.out HB.out))
       (case side4 => exact HC0_1.out)
       (case side5 => exact byC (Kd.C_below HR0_2.out HB.out))
       (case side6 => exact HC0_2.out)
       (case side7 => exact Kd.C_nil _ _)
       (case side8 => exact Nat.le_refl _)
       rintro e w62 ⟨v432, rfl, ho0, hb⟩
       refine ⟨_, rfl, ?_⟩
       have n0_ := Aside0.mk (Kd.R_below (byR HO421.out) hb); have n1_ := Aside0.mk (Kd.R_below (byR HO429.out) hb); have n2_ := Aside0.mk (Kd.R_lower ho0 (below_size (byB2 HB.out GE414.out GE415.out))); have n3_ := Aside0.mk (blk_below (g := gb414) (o := .cells #[.slice A0_0 l0_0.length c0_0, .slice A0_1 l0_1.length c0_1, .slice A0_2 l0_2.length c0_2] 37 (0, 0)) (byK BK414.out) hb); have n4_ := Aside0.mk (blk_below (g := gb415) (o := .cells #[.int .i64 a2_0, .int .i64 a2_1, .int .i64 a2_2, .bool false] 42 (0, 0)) (byK BK415.out) hb); have n5_ := Aside0.mk (below_step (byB2 HB.out GE414.out GE415.out) hb); clear HO421 HO429 BK414 BK415 HB; have HO421 := n0_; have HO429 := n1_; have HO433 := n2_; have BK414 := n3_; have BK415 := n4_; have HB := n5_; clear n0_ n1_ n2_ n3_ n4_ n5_
       (try clear hb)
       (try clear hb2)
       (try clear hk)
       (try clear hi)
       (try clear ho0)
       refine hK.out _ _ ⟨(blk_cell BK414.out 0).trans rfl, (blk_cell BK414.out 1).trans rfl, (blk_cell BK414.out 2).trans rfl⟩ (fun hHeld => ?_)
       clear hK K
       refine norm_ (a' := ?_) ?_ ?_
       rotate_left
       ·show Act.put _ (some 74) _ = _
        simp only [putW]; rfl
       refine one_ (i := 5) (N := some 78) (bits 12 63) rfl rfl (one_of HT_.out (by kernel_rfl)) (by decide) (fun K hK => ?_)
       refine goes_ Try.func16 (by kernel_rfl) rfl #[.agg #[.slice A0_0 l0_0.length c0_0, .slice A0_1 l0_1.length c0_1, .slice A0_2 l0_2.length c0_2], .int .i64 a4] (by rfl) rfl rfl byL ?_
       with_reducible refine (turns_Source.calls kj5 _ _ l0_0 _ _ l0_1 _ _ l0_2 a4 t434 _ ?side1 ?side2 ?side3 ?side4 ?side5 ?side6 A49.out).mono ?_
       (case side1 => exact byC (Kd.C_below HR0_0.out HB.out))
       (case side2 => exact HC0_0.out)
       (case side3 => exact byC (Kd.C_below HR0_1.out HB.out))
       (case side4 => exact HC0_1.out)
       (case side5 => exact byC (Kd.C_below HR0_2.out HB.out))
       (case side6 => exact HC0_2.out)
       rintro e w63 ⟨rfl, hb⟩
       refine ⟨_, rfl, ?_⟩
       have n0_ := Aside0.mk (Kd.R_below (byR HO421.out) hb); have n1_ := Aside0.mk (Kd.R_below (byR HO429.out) hb); have n2_ := Aside0.mk (Kd.R_below (byR HO433.out) hb); have n3_ := Aside0.mk (blk_below (g := gb414) (o := .cells #[.slice A0_0 l0_0.length c0_0, .slice A0_1 l0_1.length c0_1, .slice A0_2 l0_2.length c0_2] 37 (0, 0)) (byK BK414.out) hb); have n4_ := Aside0.mk (blk_below (g := gb415) (o := .cells #[.int .i64 a2_0, .int .i64 a2_1, .int .i64 a2_2, .bool false] 42 (0, 0)) (byK BK415.out) hb); have n5_ := Aside0.mk (below_step (byB2 HB.out GE414.out GE415.out) hb); clear HO421 HO429 HO433 BK414 BK415 HB; have HO421 := n0_; have HO429 := n1_; have HO433 := n2_; have BK414 := n3_; have BK415 := n4_; have HB := n5_; clear n0_ n1_ n2_ n3_ n4_ n5_
       (try clear hb)
       (try clear hb2)
       (try clear hk)
       (try clear hi)
       obtain ⟨Ao64, co64, eo64⟩ := Kd.R_slice HO433.out
       (first | subst eo64 | (injection eo64 with f1_ f2_ f3_; have f4_ := f1_.symm; have f5_ := f3_.symm; clear f1_ f2_ f3_; subst f4_; subst f5_))
       obtain ⟨Ao65, co65, eo65⟩ := Kd.R_slice HO421.out
       (first | subst eo65 | (injection eo65 with f1_ f2_ f3_; have f4_ := f1_.symm; have f5_ := f3_.symm; clear f1_ f2_ f3_; subst f4_; subst f5_))
       refine hK.out _ _ ⟨(blk_cell BK414.out 0).trans rfl, (blk_cell BK414.out 1).trans rfl, (blk_cell BK414.out 2).trans rfl⟩ (fun hHeld => ?_)
       clear hK K
       refine norm_ (a' := ?_) ?_ ?_
       rotate_left
       ·show Act.put _ (some 78) _ = _
        simp only [putW]; rfl
       refine one_ (i := 6) (N := some 79) (bits 12 127) rfl rfl (one_of HT_.out (by kernel_rfl)) (by decide) (fun K hK => ?_)
       refine goes_ Try.func22 (by kernel_rfl) rfl #[.agg #[.int .i64 t430, .slice Ao64 t431.length co64], .slice Ao65 t419.length co65, .int .i64 t434] (by rfl) rfl rfl byL ?_
       with_reducible refine (mapmakerref38_From.calls kj5 t430 _ _ t431 _ _ t419 t434 t435 t438 _ ?side1 ?side2 ?side3 ?side4 A50.out).mono ?_
       (case side1 => repeat (first | exact (Kd.R_reads' HO433.out).2.2 | (with_reducible refine Kd.C_alloc ?_ _) | (with_reducible refine Kd.C_drewN ?_ _) | (with_reducible refine Kd.C_drew ?_)))
       (case side2 => exact (Kd.R_reads' HO433.out).2.1)
       (case side3 => repeat (first | exact (Kd.R_reads' HO421.out).2.2 | (with_reducible refine Kd.C_alloc ?_ _) | (with_reducible refine Kd.C_drewN ?_ _) | (with_reducible refine Kd.C_drew ?_)))
       (case side4 => exact (Kd.R_reads' HO421.out).2.1)
       rintro e w66 ⟨v436, rfl, ho0, hb⟩
       (first | (obtain ⟨Ao436, co436, eo436⟩ := Kd.R_slice ho0; subst eo436) | (obtain ⟨Ao436, co436, eo436⟩ := Kd.R_slice (Kd.S_R ho0); subst eo436))
       refine ⟨_, rfl, ?_⟩
       have n0_ := Aside0.mk (Kd.R_elder' (byR HO421.out) (Kd.R_base ho0) hb); have n1_ := Aside0.mk (Kd.R_below (byR HO429.out) hb); have n2_ := Aside0.mk (Kd.R_below (byR HO433.out) hb); have n3_ := Aside0.mk (Kd.R_lower (Kd.R_new' ho0 (Kd.R_lt (byR HO421.out))) (below_size (byB2 HB.out GE414.out GE415.out))); have n4_ := Aside0.mk (blk_below (g := gb414) (o := .cells #[.slice A0_0 l0_0.length c0_0, .slice A0_1 l0_1.length c0_1, .slice A0_2 l0_2.length c0_2] 37 (0, 0)) (byK BK414.out) hb); have n5_ := Aside0.mk (blk_below (g := gb415) (o := .cells #[.int .i64 a2_0, .int .i64 a2_1, .int .i64 a2_2, .bool false] 42 (0, 0)) (byK BK415.out) hb); have n6_ := Aside0.mk (below_step (byB2 HB.out GE414.out GE415.out) hb); clear HO421 HO429 HO433 BK414 BK415 HB; have HO421 := n0_; have HO429 := n1_; have HO433 := n2_; have HO437 := n3_; have BK414 := n4_; have BK415 := n5_; have HB := n6_; clear n0_ n1_ n2_ n3_ n4_ n5_ n6_
       (try clear hb)
       (try clear hb2)
       (try clear hk)
       (try clear hi)
       (try clear ho0)
       refine hK.out _ _ ⟨(blk_cell BK414.out 0).trans rfl, (blk_cell BK414.out 1).trans rfl, (blk_cell BK414.out 2).trans rfl⟩ (fun hHeld => ?_)
       clear hK K
       refine norm_ (a' := ?_) ?_ ?_
       rotate_left
       ·show Act.put _ (some 79) _ = _
        simp only [putW]; rfl
       refine q_ 7 72 HT_ ?_; refine q_ 8 80 HT_ ?_; refine q_ 9 81 HT_ ?_; refine q_ 10 14 HT_ ?_; refine q_ 11 15 HT_ ?_
       refine done_ (done_of HT_.out (by kernel_rfl)) ?_
       have hcz67_0 : w66.cell? ⟨gb414, 0, none⟩ = some (.slice A0_0 l0_0.length c0_0) := (blk_cell BK414.out 0).trans rfl
       have hcz67_1 : w66.cell? ⟨gb414, 1, none⟩ = some (.slice A0_1 l0_1.length c0_1) := (blk_cell BK414.out 1).trans rfl
       have hcz67_2 : w66.cell? ⟨gb414, 2, none⟩ = some (.slice A0_2 l0_2.length c0_2) := (blk_cell BK414.out 2).trans rfl
       have hfz67_0 := blk_frozen BK414.out 0; have hfz67_1 := blk_frozen BK414.out 1; have hfz67_2 := blk_frozen BK414.out 2
       go_upto_region 12 with (first | ((with_reducible refine gate_callee (f := 24) rfl ?_); refine goesL_ (some 84) rfl rfl Try.func24 (by kernel_rfl) rfl #[.agg #[.slice A0_0 l0_0.length c0_0, .slice A0_1 l0_1.length c0_1, .slice A0_2 l0_2.length c0_2]] rfl byL ?_; (with_reducible refine (mapmakerref46_Graph.calls kj5 _ _ l0_0 _ _ l0_1 _ _ l0_2 t439 t440 _ ?side1 ?side2 ?side3 ?side4 ?side5 ?side6 A51.out).mono ?_); (case side1 => exact byC (Kd.C_below HR0_0.out HB.out)); (case side2 => exact HC0_0.out); (case side3 => exact byC (Kd.C_below HR0_1.out HB.out)); (case side4 => exact HC0_1.out); (case side5 => exact byC (Kd.C_below HR0_2.out HB.out)); (case side6 => exact HC0_2.out); rintro e w68 ⟨v441, rfl, ho0, hb⟩; refine ⟨_, rfl, ?_⟩; have n0_ := Aside0.mk (Kd.R_below (byR HO421.out) hb); have n1_ := Aside0.mk (Kd.R_below (byR HO429.out) hb); have n2_ := Aside0.mk (Kd.R_elder' (byR HO433.out) (Kd.R_base ho0) hb); have n3_ := Aside0.mk (Kd.R_below (byR HO437.out) hb); have n4_ := Aside0.mk (Kd.R_lower (Kd.R_new' ho0 (Kd.R_lt (byR HO433.out))) (below_size (byB2 HB.out GE414.out GE415.out))); have n5_ := Aside0.mk (blk_below (g := gb414) (o := .cells #[.slice A0_0 l0_0.length c0_0, .slice A0_1 l0_1.length c0_1, .slice A0_2 l0_2.length c0_2] 37 (0, 0)) (byK BK414.out) hb); have n6_ := Aside0.mk (blk_below (g := gb415) (o := .cells #[.int .i64 a2_0, .int .i64 a2_1, .int .i64 a2_2, .bool false] 42 (0, 0)) (byK BK415.out) hb); have n7_ := Aside0.mk (below_step (byB2 HB.out GE414.out GE415.out) hb); clear HO421 HO429 HO433 HO437 BK414 BK415 HB; have HO421 := n0_; have HO429 := n1_; have HO433 := n2_; have HO437 := n3_; have HO442 := n4_; have BK414 := n5_; have BK415 := n6_; have HB := n7_; clear n0_ n1_ n2_ n3_ n4_ n5_ n6_ n7_; (try clear hb); (try clear hb2); (try clear hk); (try clear hi); (try clear ho0); obtain ⟨Ao69, co69, eo69⟩ := Kd.R_slice HO442.out; (first | subst eo69 | (injection eo69 with f1_ f2_ f3_; have f4_ := f1_.symm; have f5_ := f3_.symm; clear f1_ f2_ f3_; subst f4_; subst f5_))) | ((with_reducible refine gate_callee (f := 22) rfl ?_); refine goesL_ (some 87) rfl rfl Try.func22 (by kernel_rfl) rfl #[.agg #[.int .i64 t439, .slice Ao69 t440.length co69], .slice A3 l3.length c3, .int .i64 a4] rfl byL ?_; (with_reducible refine (mapmakerref38_From.calls kj5 t439 _ _ t440 _ _ l3 a4 t443 t446 _ ?side1 ?side2 ?side3 ?side4 A52.out).mono ?_); (case side1 => repeat (first | exact (Kd.R_reads' HO442.out).2.2 | (with_reducible refine Kd.C_alloc ?_ _) | (with_reducible refine Kd.C_drewN ?_ _) | (with_reducible refine Kd.C_drew ?_))); (case side2 => exact (Kd.R_reads' HO442.out).2.1); (case side3 => exact byC (Kd.C_below HR3.out HB.out)); (case side4 => exact HC3.out); rintro e w70 ⟨v444, rfl, ho0, hb⟩; refine ⟨_, rfl, ?_⟩; have n0_ := Aside0.mk (Kd.R_elder' (byR HO421.out) (Kd.R_base ho0) hb); have n1_ := Aside0.mk (Kd.R_below (byR HO429.out) hb); have n2_ := Aside0.mk (Kd.R_below (byR HO433.out) hb); have n3_ := Aside0.mk (Kd.R_elder' (byR HO437.out) (Kd.R_base ho0) hb); have n4_ := Aside0.mk (Kd.R_below (byR HO442.out) hb); have n5_ := Aside0.mk (Kd.R_lower (Kd.R_new' (Kd.R_new' ho0 (Kd.R_lt (byR HO421.out))) (Kd.R_lt (byR HO437.out))) (below_size (byB2 HB.out GE414.out GE415.out))); have n6_ := Aside0.mk (blk_below (g := gb414) (o := .cells #[.slice A0_0 l0_0.length c0_0, .slice A0_1 l0_1.length c0_1, .slice A0_2 l0_2.length c0_2] 37 (0, 0)) (byK BK414.out) hb); have n7_ := Aside0.mk (blk_below (g := gb415) (o := .cells #[.int .i64 a2_0, .int .i64 a2_1, .int .i64 a2_2, .bool false] 42 (0, 0)) (byK BK415.out) hb); have n8_ := Aside0.mk (below_step (byB2 HB.out GE414.out GE415.out) hb); clear HO421 HO429 HO433 HO437 HO442 BK414 BK415 HB; have HO421 := n0_; have HO429 := n1_; have HO433 := n2_; have HO437 := n3_; have HO442 := n4_; have HO445 := n5_; have BK414 := n6_; have BK415 := n7_; have HB := n8_; clear n0_ n1_ n2_ n3_ n4_ n5_ n6_ n7_ n8_; (try clear hb); (try clear hb2); (try clear hk); (try clear hi); (try clear ho0)))
       (try simp only [Act.put, List.setIfInBounds_toArray, List.set_cons_zero, List.set_cons_succ])
       go_cut [95] (fun v95 wc => ∃ (kq : Nat) (x95_52 : Bool), v95 = .bool x95_52 ∧ Aside0 (mapmakerlaw47_TurnsFrees.j1 kq l1 a4 y427 t435 t443 x95_52 l0_0 l0_1 l0_2 a2_0 a2_1 a2_2 false = some r) ∧ Aside0 (kq ≤ kj5) ∧ Aside0 (Kd.R k42 42 wc w.heap.size (fun k_ => k_ ≠ gb415) v428 y427) ∧ Aside0 (Kd.R (Kd.int .i64) 3 wc w.heap.size (fun k_ => some k_ ≠ (v444 : Value).ownBlock) (.slice Ao436 t435.length co436) t435) ∧ Aside0 (Kd.R (Kd.int .i64) 3 wc w.heap.size (fun k_ => some k_ ≠ ((.slice Ao436 t435.length co436) : Value).ownBlock) v444 t443) ∧ Aside0 (wc.heap[gb414]? = some (.cells #[(.slice A0_0 l0_0.length c0_0), (.slice A0_1 l0_1.length c0_1), (.slice A0_2 l0_2.length c0_2)] 37 (0, 0))) ∧ Aside0 (wc.heap[gb415]? = some (.cells #[.int .i64 a2_0, .int .i64 a2_1, .int .i64 a2_2, .bool false] 42 (0, 0))) ∧ Aside0 (Below w.heap.size w wc))
       case first =>
        have H := HC53.out; clear HC53
        by_cases c71 : t438 = 0
        ·rw [if_pos c71] at H
         have c71b0 : (t438 == 0) = true := beq_iff_eq.mpr c71
         have c71b1 : (t438 != 0) = false := bne_eq_false_iff_eq.mpr c71
         clear c71
         (first | rw [c71b0] | (simp only [i64_w, i32_w]; rw [c71b0]) | skip)
         have H' := Aside0.mk H
         clear H
         go_wp2
         go_meet
         case rel => exact ⟨_, ((t446 != 0)), byF, H', ⟨by have := HJ5.out; first | omega | exact Nat.le_refl _⟩, ⟨by (with_reducible repeat (first | apply Kd.R_alloc | apply Kd.R_drewN | apply Kd.R_drew)); exact HO429.out⟩, ⟨by (with_reducible repeat (first | apply Kd.R_alloc | apply Kd.R_drewN | apply Kd.R_drew)); exact Kd.R_mono HO437.out (fun _ hk => hk.2)⟩, ⟨by (with_reducible repeat (first | apply Kd.R_alloc | apply Kd.R_drewN | apply Kd.R_drew)); exact Kd.R_mono HO445.out (fun _ hk => hk.2)⟩, ⟨by (with_reducible repeat (first | refine blk_drewN ?_ _ | refine blk_drew ?_ | refine blk_alloc ?_ _)); exact BK414.out⟩, ⟨by (with_reducible repeat (first | refine blk_drewN ?_ _ | refine blk_drew ?_ | refine blk_alloc ?_ _)); exact BK415.out⟩, ⟨byB2 HB.out GE414.out GE415.out⟩⟩
        ·rw [if_neg c71] at H
         have c71b0 : (t438 == 0) = false := beq_eq_false_iff_ne.mpr c71
         have c71b1 : (t438 != 0) = true := bne_iff_ne.mpr c71
         (first | rw [c71b0] | (simp only [i64_w, i32_w]; rw [c71b0]) | skip)
         have H' := Aside0.mk H
         clear H
         go_wp2
         go_meet
         case rel => exact ⟨_, (true), byF, H', ⟨by have := HJ5.out; first | omega | exact Nat.le_refl _⟩, ⟨by (with_reducible repeat (first | apply Kd.R_alloc | apply Kd.R_drewN | apply Kd.R_drew)); exact HO429.out⟩, ⟨by (with_reducible repeat (first | apply Kd.R_alloc | apply Kd.R_drewN | apply Kd.R_drew)); exact Kd.R_mono HO437.out (fun _ hk => hk.2)⟩, ⟨by (with_reducible repeat (first | apply Kd.R_alloc | apply Kd.R_drewN | apply Kd.R_drew)); exact Kd.R_mono HO445.out (fun _ hk => hk.2)⟩, ⟨by (with_reducible repeat (first | refine blk_drewN ?_ _ | refine blk_drew ?_ | refine blk_alloc ?_ _)); exact BK414.out⟩, ⟨by (with_reducible repeat (first | refine blk_drewN ?_ _ | refine blk_drew ?_ | refine blk_alloc ?_ _)); exact BK415.out⟩, ⟨byB2 HB.out GE414.out GE415.out⟩⟩
       case rest =>
        clear HC53
        try clear c1
        try clear c2
        try clear p2
        try clear c3
        try clear c4
        try clear c5
        try clear c7
        try clear c9
        try clear c10
        try clear c11
        try clear c11b0
        try clear c11b1
        try clear c12
        try clear c13
        try clear c15
        try clear c15b0
        try clear c15b1
        try clear c16
        try clear c20
        try clear c20b0
        try clear c20b1
        try clear c21
        try clear c21b0
        try clear c22
        try clear c23
        try clear c24
        try clear c27
        try clear c33
        try clear c38
        try clear c41
        try clear c45
        try clear c45b0
        try clear c45b1
        try clear c46
        try clear c47
        try clear c54
        try clear c71
        try clear c71b0
        try clear c71b1
        try clear hcz13_0
        try clear hcz13_1
        try clear hcz13_2
        try clear hcz17_0
        try clear hcz17_1
        try clear hcz17_2
        try clear hcz23_0
        try clear hcz23_1
        try clear hcz23_2
        try clear hcz25_0
        try clear hcz25_1
        try clear hcz25_2
        try clear hcz28_0
        try clear hcz28_1
        try clear hcz28_2
        try clear hcz30_0
        try clear hcz30_1
        try clear hcz30_2
        try clear hcz32_0
        try clear hcz32_1
        try clear hcz32_2
        try clear hcz34_0
        try clear hcz34_1
        try clear hcz34_2
        try clear hcz36_0
        try clear hcz36_1
        try clear hcz36_2
        try clear hcz39_0
        try clear hcz39_1
        try clear hcz39_2
        try clear hcz55_0
        try clear hcz55_1
        try clear hcz55_2
        try clear hcz57_0
        try clear hcz57_1
        try clear hcz57_2
        try clear hcz57_3
        try clear hcz59_0
        try clear hcz59_1
        try clear hcz59_2
        try clear hcz59_3
        try clear hcz67_0
        try clear hcz67_1
        try clear hcz67_2
        try clear hfz13_0
        try clear hfz13_1
        try clear hfz13_2
        try clear hfz17_0
        try clear hfz17_1
        try clear hfz17_2
        try clear hfz23_0
        try clear hfz23_1
        try clear hfz23_2
        try clear hfz25_0
        try clear hfz25_1
        try clear hfz25_2
        try clear hfz28_0
        try clear hfz28_1
        try clear hfz28_2
        try clear hfz30_0
        try clear hfz30_1
        try clear hfz30_2
        try clear hfz32_0
        try clear hfz32_1
        try clear hfz32_2
        try clear hfz34_0
        try clear hfz34_1
        try clear hfz34_2
        try clear hfz36_0
        try clear hfz36_1
        try clear hfz36_2
        try clear hfz39_0
        try clear hfz39_1
        try clear hfz39_2
        try clear hfz55_0
        try clear hfz55_1
        try clear hfz55_2
        try clear hfz57_0
        try clear hfz57_1
        try clear hfz57_2
        try clear hfz57_3
        try clear hfz59_0
        try clear hfz59_1
        try clear hfz59_2
        try clear hfz59_3
        try clear hfz67_0
        try clear hfz67_1
        try clear hfz67_2
        try clear p2
        obtain ⟨kq, x95_52, rfl, HA, HJ52, HO_13, HO_14, HO_16, BK414, BK415, HB⟩ := hcut
        cases kq with
        | zero => exact absurd HA.out (by simp [mapmakerlaw47_TurnsFrees.j1])
        | succ kj52 =>
         have H := HA.out; clear HA
         simp only [mapmakerlaw47_TurnsFrees.j1] at H
         by_cases c72 : x95_52 = true
         ·subst c72
          have H1 : (some false) = some r := by rw [if_pos rfl] at H; exact H
          clear H; have H := H1; clear H1
          obtain rfl := Option.some.inj H
          go_wp2
          go_ret
          exact ⟨byE, byB2 HB.out GE414.out GE415.out⟩
         ·replace c72 := Bool.eq_false_iff.mpr c72
          subst c72
          have H1 : (mapmakerlaw47_TurnsFrees.l0 kj52 l1 a4 y427 t435 t443 (l0_0.length : Int) 0 l0_0 l0_1 l0_2 a2_0 a2_1 a2_2 false) = some r := by rw [if_neg (show ¬ (false = true) by decide)] at H; exact H
          clear H; have H := H1; clear H1
          have H' := Aside0.mk H
          clear H; have hnb73 := NB414_415.out; have hnc73 := NB415_414.out
          have hcz74_0 : wc.cell? ⟨gb414, 0, none⟩ = some (.slice A0_0 l0_0.length c0_0) := (blk_cell BK414.out 0).trans rfl
          have hcz74_1 : wc.cell? ⟨gb414, 1, none⟩ = some (.slice A0_1 l0_1.length c0_1) := (blk_cell BK414.out 1).trans rfl
          have hcz74_2 : wc.cell? ⟨gb414, 2, none⟩ = some (.slice A0_2 l0_2.length c0_2) := (blk_cell BK414.out 2).trans rfl
          have hfz74_0 := blk_frozen BK414.out 0; have hfz74_1 := blk_frozen BK414.out 1; have hfz74_2 := blk_frozen BK414.out 2
          go_wp2
          go_loopg [99] kj52 (fun kq v99 w' => ∃ (x99_3 : Int), v99 = .int .i64 x99_3 ∧ Aside0 (mapmakerlaw47_TurnsFrees.l0 kq l1 a4 y427 t435 t443 (l0_0.length : Int) x99_3 l0_0 l0_1 l0_2 a2_0 a2_1 a2_2 false = some r) ∧ Aside0 (kq ≤ kj52) ∧ Aside0 (Kd.R k42 42 w' w.heap.size (fun k_ => k_ ≠ gb415) v428 y427) ∧ Aside0 (Kd.R (Kd.int .i64) 3 w' w.heap.size (fun k_ => some k_ ≠ (v444 : Value).ownBlock) (.slice Ao436 t435.length co436) t435) ∧ Aside0 (Kd.R (Kd.int .i64) 3 w' w.heap.size (fun k_ => some k_ ≠ ((.slice Ao436 t435.length co436) : Value).ownBlock) v444 t443) ∧ Aside0 (w'.heap[gb414]? = some (.cells #[(.slice A0_0 l0_0.length c0_0), (.slice A0_1 l0_1.length c0_1), (.slice A0_2 l0_2.length c0_2)] 37 (0, 0))) ∧ Aside0 (w'.heap[gb415]? = some (.cells #[.int .i64 a2_0, .int .i64 a2_1, .int .i64 a2_2, .bool false] 42 (0, 0))) ∧ Aside0 (Below w.heap.size w w'))
          case atStart => exact ⟨(0), byF, H', ⟨Nat.le_refl _⟩, ⟨by (with_reducible repeat (first | apply Kd.R_alloc | apply Kd.R_drewN | apply Kd.R_drew)); exact HO_13.out⟩, ⟨by (with_reducible repeat (first | apply Kd.R_alloc | apply Kd.R_drewN | apply Kd.R_drew)); exact HO_14.out⟩, ⟨by (with_reducible repeat (first | apply Kd.R_alloc | apply Kd.R_drewN | apply Kd.R_drew)); exact HO_16.out⟩, ⟨by (with_reducible repeat (first | refine blk_drewN ?_ _ | refine blk_drew ?_ | refine blk_alloc ?_ _)); exact BK414.out⟩, ⟨by (with_reducible repeat (first | refine blk_drewN ?_ _ | refine blk_drew ?_ | refine blk_alloc ?_ _)); exact BK415.out⟩, ⟨byB2 HB.out GE414.out GE415.out⟩⟩
          case round => as_aux_lemma =>
           clear H'
           try clear c1
           try clear c2
           try clear p2
           try clear c3
           try clear c4
           try clear c5
           try clear c7
           try clear c9
           try clear c10
           try clear c11
           try clear c11b0
           try clear c11b1
           try clear c12
           try clear c13
           try clear c15
           try clear c15b0
           try clear c15b1
           try clear c16
           try clear c20
           try clear c20b0
           try clear c20b1
           try clear c21
           try clear c21b0
           try clear c22
           try clear c23
           try clear c24
           try clear c27
           try clear c33
           try clear c38
           try clear c41
           try clear c45
           try clear c45b0
           try clear c45b1
           try clear c46
           try clear c47
           try clear c54
           try clear c71
           try clear c71b0
           try clear c71b1
           try clear c72
           try clear c73
           try clear hcz13_0
           try clear hcz13_1
           try clear hcz13_2
           try clear hcz17_0
           try clear hcz17_1
           try clear hcz17_2
           try clear hcz23_0
           try clear hcz23_1
           try clear hcz23_2
           try clear hcz25_0
           try clear hcz25_1
           try clear hcz25_2
           try clear hcz28_0
           try clear hcz28_1
           try clear hcz28_2
           try clear hcz30_0
           try clear hcz30_1
           try clear hcz30_2
           try clear hcz32_0
           try clear hcz32_1
           try clear hcz32_2
           try clear hcz34_0
           try clear hcz34_1
           try clear hcz34_2
           try clear hcz36_0
           try clear hcz36_1
           try clear hcz36_2
           try clear hcz39_0
           try clear hcz39_1
           try clear hcz39_2
           try clear hcz55_0
           try clear hcz55_1
           try clear hcz55_2
           try clear hcz57_0
           try clear hcz57_1
           try clear hcz57_2
           try clear hcz57_3
           try clear hcz59_0
           try clear hcz59_1
           try clear hcz59_2
           try clear hcz59_3
           try clear hcz67_0
           try clear hcz67_1
           try clear hcz67_2
           try clear hcz74_0
           try clear hcz74_1
           try clear hcz74_2
           try clear hfz13_0
           try clear hfz13_1
           try clear hfz13_2
           try clear hfz17_0
           try clear hfz17_1
           try clear hfz17_2
           try clear hfz23_0
           try clear hfz23_1
           try clear hfz23_2
           try clear hfz25_0
           try clear hfz25_1
           try clear hfz25_2
           try clear hfz28_0
           try clear hfz28_1
           try clear hfz28_2
           try clear hfz30_0
           try clear hfz30_1
           try clear hfz30_2
           try clear hfz32_0
           try clear hfz32_1
           try clear hfz32_2
           try clear hfz34_0
           try clear hfz34_1
           try clear hfz34_2
           try clear hfz36_0
           try clear hfz36_1
           try clear hfz36_2
           try clear hfz39_0
           try clear hfz39_1
           try clear hfz39_2
           try clear hfz55_0
           try clear hfz55_1
           try clear hfz55_2
           try clear hfz57_0
           try clear hfz57_1
           try clear hfz57_2
           try clear hfz57_3
           try clear hfz59_0
           try clear hfz59_1
           try clear hfz59_2
           try clear hfz59_3
           try clear hfz67_0
           try clear hfz67_1
           try clear hfz67_2
           try clear hfz74_0
           try clear hfz74_1
           try clear hfz74_2
           try clear p2
           obtain ⟨x99_3, rfl, HA, HK3, HO_13, HO_14, HO_16, BK414, BK415, HB⟩ := hrel
           cases gk with
           | zero => exact absurd HA.out (by simp [mapmakerlaw47_TurnsFrees.l0])
           | succ k3 =>
            have H := HA.out; clear HA
            simp only [mapmakerlaw47_TurnsFrees.l0] at H
            by_cases c75 : x99_3 < (l0_0.length : Int)
            ·rw [if_pos c75] at H
             have c75b0 : decide (x99_3 < (l0_0.length : Int)) = true := decide_eq_true c75
             clear c75
             replace H := Option.bind_eq_some_iff.mp H
             obtain ⟨t447, A760, H⟩ := H
             replace H : (if t447 < 0 then (some false) else (if t447 ≥ (t435.length : Int) then (some false) else (if x99_3 = a4 then (mapmakerlaw47_TurnsFrees.l0 k3 l1 a4 y427 t435 t443 (l0_0.length : Int) (wrap64 (x99_3 + 1)) l0_0 l0_1 l0_2 a2_0 a2_1 a2_2 false) else (if 0 ≤ t447 then (if t447 < (t435.length : Int) then (if 0 ≤ x99_3 then (if x99_3 < (t443.length : Int) then (if (rd t435 t447) < (rd t443 x99_3) then (some false) else (mapmakerlaw47_TurnsFrees.l0 k3 l1 a4 y427 t435 t443 (l0_0.length : Int) (wrap64 (x99_3 + 1)) l0_0 l0_1 l0_2 a2_0 a2_1 a2_2 false)) else (none)) else (none)) else (none)) else (none))))) = some r := H
             have A76 := Aside0.mk A760; clear A760
             by_cases c77 : t447 < 0
             ·rw [if_pos c77] at H
              have c77b0 : decide (t447 < 0) = true := decide_eq_true c77
              clear c77
              obtain rfl := Option.some.inj H
              have hnb78 := NB414_415.out; have hnc78 := NB415_414.out
              have hcz79_0 : wr.cell? ⟨gb414, 0, none⟩ = some (.slice A0_0 l0_0.length c0_0) := (blk_cell BK414.out 0).trans rfl
              have hcz79_1 : wr.cell? ⟨gb414, 1, none⟩ = some (.slice A0_1 l0_1.length c0_1) := (blk_cell BK414.out 1).trans rfl
              have hcz79_2 : wr.cell? ⟨gb414, 2, none⟩ = some (.slice A0_2 l0_2.length c0_2) := (blk_cell BK414.out 2).trans rfl
              have hfz79_0 := blk_frozen BK414.out 0; have hfz79_1 := blk_frozen BK414.out 1; have hfz79_2 := blk_frozen BK414.out 2
              try go_wp2_with (first | ((with_reducible refine gate_callee (f := 18) rfl ?_); refine goesL_ (some 104) rfl rfl Try.func18 (by kernel_rfl) rfl #[.agg #[.slice A0_0 l0_0.length c0_0, .slice A0_1 l0_1.length c0_1, .slice A0_2 l0_2.length c0_2], .int .i64 x99_3] rfl byL ?_; (with_reducible refine (turns_Target.calls k3 _ _ l0_0 _ _ l0_1 _ _ l0_2 x99_3 t447 _ ?side1 ?side2 ?side3 ?side4 ?side5 ?side6 A76.out).mono ?_); (case side1 => exact byC (Kd.C_below HR0_0.out HB.out)); (case side2 => exact HC0_0.out); (case side3 => exact byC (Kd.C_below HR0_1.out HB.out)); (case side4 => exact HC0_1.out); (case side5 => exact byC (Kd.C_below HR0_2.out HB.out)); (case side6 => exact HC0_2.out); rintro e w80 ⟨rfl, hb⟩; refine ⟨_, rfl, ?_⟩; have n0_ := Aside0.mk (Kd.R_below (byR HO_13.out) hb); have n1_ := Aside0.mk (Kd.R_below (byR HO_14.out) hb); have n2_ := Aside0.mk (Kd.R_below (byR HO_16.out) hb); have n3_ := Aside0.mk (blk_below (g := gb414) (o := .cells #[.slice A0_0 l0_0.length c0_0, .slice A0_1 l0_1.length c0_1, .slice A0_2 l0_2.length c0_2] 37 (0, 0)) (byK BK414.out) hb); have n4_ := Aside0.mk (blk_below (g := gb415) (o := .cells #[.int .i64 a2_0, .int .i64 a2_1, .int .i64 a2_2, .bool false] 42 (0, 0)) (byK BK415.out) hb); have n5_ := Aside0.mk (below_step (byB2 HB.out GE414.out GE415.out) hb); clear HO_13 HO_14 HO_16 BK414 BK415 HB; have HO_13 := n0_; have HO_14 := n1_; have HO_16 := n2_; have BK414 := n3_; have BK415 := n4_; have HB := n5_; clear n0_ n1_ n2_ n3_ n4_ n5_; (try clear hb); (try clear hb2); (try clear hk); (try clear hi)))
              have n0_ := Aside0.mk (Kd.R_drew HO_13.out); have n1_ := Aside0.mk (Kd.R_drew HO_14.out); have n2_ := Aside0.mk (Kd.R_drew HO_16.out); have n3_ := Aside0.mk (blk_drew BK414.out); have n4_ := Aside0.mk (blk_drew BK415.out); have n5_ := Aside0.mk (below_drew1 HB.out); clear HO_13 HO_14 HO_16 BK414 BK415 HB; have HO_13 := n0_; have HO_14 := n1_; have HO_16 := n2_; have BK414 := n3_; have BK415 := n4_; have HB := n5_; clear n0_ n1_ n2_ n3_ n4_ n5_
              refine start_ (n := 24) (S := fun w' => True) (ds := []) (bits 24 0) (by kernel_rfl) rfl rfl trivial (fun hHeld => ?_); refine with_tabW mapmakerlaw47_TurnsFrees.tab18 mapmakerlaw47_TurnsFrees.bits18 (fun HT_ HW_ => ?_)
              generalize w80.drew = w81 at HO_13 HO_14 HO_16 BK414 BK415 HB hHeld ⊢
              refine q_ 0 105 HT_ ?_; refine q_ 1 106 HT_ ?_; refine q_ 2 107 HT_ ?_; refine qu_ 3 108 HT_ ?_; refine qu_ 4 109 HT_ ?_; refine qu_ 5 110 HT_ ?_; refine qu_ 6 111 HT_ ?_; refine q_ 7 112 HT_ ?_; refine q_ 8 113 HT_ ?_; refine qu_ 9 114 HT_ ?_; refine qu_ 10 115 HT_ ?_; refine qu_ 11 116 HT_ ?_; refine qu_ 12 117 HT_ ?_; refine qu_ 13 118 HT_ ?_; refine qu_ 14 119 HT_ ?_; refine qu_ 15 120 HT_ ?_; refine qu_ 16 121 HT_ ?_; refine qu_ 17 122 HT_ ?_; refine qu_ 18 123 HT_ ?_; refine qu_ 19 124 HT_ ?_; refine qu_ 20 125 HT_ ?_; refine qu_ 21 126 HT_ ?_; refine qu_ 22 127 HT_ ?_; refine q_ 23 128 HT_ ?_
              refine done_ (done_of HT_.out (by kernel_rfl)) ?_
              try go_wp2
              go_ret
              exact ⟨byE, byB2 HB.out GE414.out GE415.out⟩
             ·rw [if_neg c77] at H
              have c77b0 : decide (t447 < 0) = false := decide_eq_false c77
              clear c77
              by_cases c82 : t447 ≥ (t435.length : Int)
              ·rw [if_pos c82] at H
               have c82b0 : decide ((t435.length : Int) ≤ t447) = true := decide_eq_true c82
               clear c82
               obtain rfl := Option.some.inj H
               have hnb83 := NB414_415.out; have hnc83 := NB415_414.out
               have hcz84_0 : wr.cell? ⟨gb414, 0, none⟩ = some (.slice A0_0 l0_0.length c0_0) := (blk_cell BK414.out 0).trans rfl
               have hcz84_1 : wr.cell? ⟨gb414, 1, none⟩ = some (.slice A0_1 l0_1.length c0_1) := (blk_cell BK414.out 1).trans rfl
               have hcz84_2 : wr.cell? ⟨gb414, 2, none⟩ = some (.slice A0_2 l0_2.length c0_2) := (blk_cell BK414.out 2).trans rfl
               have hfz84_0 := blk_frozen BK414.out 0; have hfz84_1 := blk_frozen BK414.out 1; have hfz84_2 := blk_frozen BK414.out 2
               try go_wp2_with (first | ((with_reducible refine gate_callee (f := 18) rfl ?_); refine goesL_ (some 104) rfl rfl Try.func18 (by kernel_rfl) rfl #[.agg #[.slice A0_0 l0_0.length c0_0, .slice A0_1 l0_1.length c0_1, .slice A0_2 l0_2.length c0_2], .int .i64 x99_3] rfl byL ?_; (with_reducible refine (turns_Target.calls k3 _ _ l0_0 _ _ l0_1 _ _ l0_2 x99_3 t447 _ ?side1 ?side2 ?side3 ?side4 ?side5 ?side6 A76.out).mono ?_); (case side1 => exact byC (Kd.C_below HR0_0.out HB.out)); (case side2 => exact HC0_0.out); (case side3 => exact byC (Kd.C_below HR0_1.out HB.out)); (case side4 => exact HC0_1.out); (case side5 => exact byC (Kd.C_below HR0_2.out HB.out)); (case side6 => exact HC0_2.out); rintro e w85 ⟨rfl, hb⟩; refine ⟨_, rfl, ?_⟩; have n0_ := Aside0.mk (Kd.R_below (byR HO_13.out) hb); have n1_ := Aside0.mk (Kd.R_below (byR HO_14.out) hb); have n2_ := Aside0.mk (Kd.R_below (byR HO_16.out) hb); have n3_ := Aside0.mk (blk_below (g := gb414) (o := .cells #[.slice A0_0 l0_0.length c0_0, .slice A0_1 l0_1.length c0_1, .slice A0_2 l0_2.length c0_2] 37 (0, 0)) (byK BK414.out) hb); have n4_ := Aside0.mk (blk_below (g := gb415) (o := .cells #[.int .i64 a2_0, .int .i64 a2_1, .int .i64 a2_2, .bool false] 42 (0, 0)) (byK BK415.out) hb); have n5_ := Aside0.mk (below_step (byB2 HB.out GE414.out GE415.out) hb); clear HO_13 HO_14 HO_16 BK414 BK415 HB; have HO_13 := n0_; have HO_14 := n1_; have HO_16 := n2_; have BK414 := n3_; have BK415 := n4_; have HB := n5_; clear n0_ n1_ n2_ n3_ n4_ n5_; (try clear hb); (try clear hb2); (try clear hk); (try clear hi)))
               have n0_ := Aside0.mk (Kd.R_drew HO_13.out); have n1_ := Aside0.mk (Kd.R_drew HO_14.out); have n2_ := Aside0.mk (Kd.R_drew HO_16.out); have n3_ := Aside0.mk (blk_drew BK414.out); have n4_ := Aside0.mk (blk_drew BK415.out); have n5_ := Aside0.mk (below_drew1 HB.out); clear HO_13 HO_14 HO_16 BK414 BK415 HB; have HO_13 := n0_; have HO_14 := n1_; have HO_16 := n2_; have BK414 := n3_; have BK415 := n4_; have HB := n5_; clear n0_ n1_ n2_ n3_ n4_ n5_
               obtain ⟨Ao87, co87, eo87⟩ := Kd.R_slice HO_14.out
               (first | subst eo87 | (injection eo87 with f1_ f2_ f3_; have f4_ := f1_.symm; have f5_ := f3_.symm; clear f1_ f2_ f3_; subst f4_; subst f5_))
               refine start_ (n := 24) (S := fun w' => True) (ds := []) (bits 24 0) (by kernel_rfl) rfl rfl trivial (fun hHeld => ?_); refine with_tabW mapmakerlaw47_TurnsFrees.tab18 mapmakerlaw47_TurnsFrees.bits18 (fun HT_ HW_ => ?_)
               generalize w85.drew = w86 at HO_13 HO_14 HO_16 BK414 BK415 HB hHeld ⊢
               refine q_ 0 105 HT_ ?_; refine q_ 1 106 HT_ ?_; refine q_ 2 107 HT_ ?_; refine q_ 3 108 HT_ ?_; refine q_ 4 109 HT_ ?_; refine q_ 5 110 HT_ ?_; refine q_ 6 111 HT_ ?_; refine q_ 7 112 HT_ ?_; refine q_ 8 113 HT_ ?_; refine qu_ 9 114 HT_ ?_; refine qu_ 10 115 HT_ ?_; refine qu_ 11 116 HT_ ?_; refine qu_ 12 117 HT_ ?_; refine qu_ 13 118 HT_ ?_; refine qu_ 14 119 HT_ ?_; refine qu_ 15 120 HT_ ?_; refine qu_ 16 121 HT_ ?_; refine qu_ 17 122 HT_ ?_; refine qu_ 18 123 HT_ ?_; refine qu_ 19 124 HT_ ?_; refine qu_ 20 125 HT_ ?_; refine qu_ 21 126 HT_ ?_; refine qu_ 22 127 HT_ ?_; refine q_ 23 128 HT_ ?_
               refine done_ (done_of HT_.out (by kernel_rfl)) ?_
               try go_wp2
               go_ret
               exact ⟨byE, byB2 HB.out GE414.out GE415.out⟩
              ·rw [if_neg c82] at H
               have c82b0 : decide ((t435.length : Int) ≤ t447) = false := decide_eq_false c82
               clear c82
               by_cases c88 : x99_3 = a4
               ·rw [if_pos c88] at H
                have c88b0 : (x99_3 == a4) = true := beq_iff_eq.mpr c88
                have c88b1 : (x99_3 != a4) = false := bne_eq_false_iff_eq.mpr c88
                clear c88
                have H' := Aside0.mk H
                clear H; have hnb89 := NB414_415.out; have hnc89 := NB415_414.out
                have hcz90_0 : wr.cell? ⟨gb414, 0, none⟩ = some (.slice A0_0 l0_0.length c0_0) := (blk_cell BK414.out 0).trans rfl
                have hcz90_1 : wr.cell? ⟨gb414, 1, none⟩ = some (.slice A0_1 l0_1.length c0_1) := (blk_cell BK414.out 1).trans rfl
                have hcz90_2 : wr.cell? ⟨gb414, 2, none⟩ = some (.slice A0_2 l0_2.length c0_2) := (blk_cell BK414.out 2).trans rfl
                have hfz90_0 := blk_frozen BK414.out 0; have hfz90_1 := blk_frozen BK414.out 1; have hfz90_2 := blk_frozen BK414.out 2
                try go_wp2_with (first | ((with_reducible refine gate_callee (f := 18) rfl ?_); refine goesL_ (some 104) rfl rfl Try.func18 (by kernel_rfl) rfl #[.agg #[.slice A0_0 l0_0.length c0_0, .slice A0_1 l0_1.length c0_1, .slice A0_2 l0_2.length c0_2], .int .i64 x99_3] rfl byL ?_; (with_reducible refine (turns_Target.calls k3 _ _ l0_0 _ _ l0_1 _ _ l0_2 x99_3 t447 _ ?side1 ?side2 ?side3 ?side4 ?side5 ?side6 A76.out).mono ?_); (case side1 => exact byC (Kd.C_below HR0_0.out HB.out)); (case side2 => exact HC0_0.out); (case side3 => exact byC (Kd.C_below HR0_1.out HB.out)); (case side4 => exact HC0_1.out); (case side5 => exact byC (Kd.C_below HR0_2.out HB.out)); (case side6 => exact HC0_2.out); rintro e w91 ⟨rfl, hb⟩; refine ⟨_, rfl, ?_⟩; have n0_ := Aside0.mk (Kd.R_below (byR HO_13.out) hb); have n1_ := Aside0.mk (Kd.R_below (byR HO_14.out) hb); have n2_ := Aside0.mk (Kd.R_below (byR HO_16.out) hb); have n3_ := Aside0.mk (blk_below (g := gb414) (o := .cells #[.slice A0_0 l0_0.length c0_0, .slice A0_1 l0_1.length c0_1, .slice A0_2 l0_2.length c0_2] 37 (0, 0)) (byK BK414.out) hb); have n4_ := Aside0.mk (blk_below (g := gb415) (o := .cells #[.int .i64 a2_0, .int .i64 a2_1, .int .i64 a2_2, .bool false] 42 (0, 0)) (byK BK415.out) hb); have n5_ := Aside0.mk (below_step (byB2 HB.out GE414.out GE415.out) hb); clear HO_13 HO_14 HO_16 BK414 BK415 HB; have HO_13 := n0_; have HO_14 := n1_; have HO_16 := n2_; have BK414 := n3_; have BK415 := n4_; have HB := n5_; clear n0_ n1_ n2_ n3_ n4_ n5_; (try clear hb); (try clear hb2); (try clear hk); (try clear hi)))
                have n0_ := Aside0.mk (Kd.R_drew HO_13.out); have n1_ := Aside0.mk (Kd.R_drew HO_14.out); have n2_ := Aside0.mk (Kd.R_drew HO_16.out); have n3_ := Aside0.mk (blk_drew BK414.out); have n4_ := Aside0.mk (blk_drew BK415.out); have n5_ := Aside0.mk (below_drew1 HB.out); clear HO_13 HO_14 HO_16 BK414 BK415 HB; have HO_13 := n0_; have HO_14 := n1_; have HO_16 := n2_; have BK414 := n3_; have BK415 := n4_; have HB := n5_; clear n0_ n1_ n2_ n3_ n4_ n5_
                obtain ⟨Ao93, co93, eo93⟩ := Kd.R_slice HO_14.out
                (first | subst eo93 | (injection eo93 with f1_ f2_ f3_; have f4_ := f1_.symm; have f5_ := f3_.symm; clear f1_ f2_ f3_; subst f4_; subst f5_))
                refine start_ (n := 24) (S := fun w' => True) (ds := []) (bits 24 0) (by kernel_rfl) rfl rfl trivial (fun hHeld => ?_); refine with_tabW mapmakerlaw47_TurnsFrees.tab18 mapmakerlaw47_TurnsFrees.bits18 (fun HT_ HW_ => ?_)
                generalize w91.drew = w92 at HO_13 HO_14 HO_16 BK414 BK415 HB hHeld ⊢
                refine q_ 0 105 HT_ ?_; refine q_ 1 106 HT_ ?_; refine q_ 2 107 HT_ ?_; refine q_ 3 108 HT_ ?_; refine q_ 4 109 HT_ ?_; refine q_ 5 110 HT_ ?_; refine q_ 6 111 HT_ ?_; refine q_ 7 112 HT_ ?_; refine q_ 8 113 HT_ ?_; refine q_ 9 114 HT_ ?_; refine q_ 10 115 HT_ ?_; refine q_ 11 116 HT_ ?_; refine q_ 12 117 HT_ ?_; refine qu_ 13 118 HT_ ?_; refine qu_ 14 119 HT_ ?_; refine qu_ 15 120 HT_ ?_; refine qu_ 16 121 HT_ ?_; refine qu_ 17 122 HT_ ?_; refine qu_ 18 123 HT_ ?_; refine qu_ 19 124 HT_ ?_; refine qu_ 20 125 HT_ ?_; refine qu_ 21 126 HT_ ?_; refine q_ 22 127 HT_ ?_; refine q_ 23 128 HT_ ?_
                refine done_ (done_of HT_.out (by kernel_rfl)) ?_
                try go_wp2
                go_roundg k3
                case measure => have := HJ5.out; have := HJ52.out; have := HK3.out; omega
                case rel => exact ⟨(wrap64 (x99_3 + 1)), byF, H', ⟨by have := HJ5.out; have := HJ52.out; have := HK3.out; omega⟩, ⟨by (with_reducible repeat (first | apply Kd.R_alloc | apply Kd.R_drewN | apply Kd.R_drew)); exact HO_13.out⟩, ⟨by (with_reducible repeat (first | apply Kd.R_alloc | apply Kd.R_drewN | apply Kd.R_drew)); exact HO_14.out⟩, ⟨by (with_reducible repeat (first | apply Kd.R_alloc | apply Kd.R_drewN | apply Kd.R_drew)); exact HO_16.out⟩, ⟨by (with_reducible repeat (first | refine blk_drewN ?_ _ | refine blk_drew ?_ | refine blk_alloc ?_ _)); exact BK414.out⟩, ⟨by (with_reducible repeat (first | refine blk_drewN ?_ _ | refine blk_drew ?_ | refine blk_alloc ?_ _)); exact BK415.out⟩, ⟨byB2 HB.out GE414.out GE415.out⟩⟩
               ·rw [if_neg c88] at H
                have c88b0 : (x99_3 == a4) = false := beq_eq_false_iff_ne.mpr c88
                have c88b1 : (x99_3 != a4) = true := bne_iff_ne.mpr c88
                by_cases c94 : 0 ≤ t447
                ·rw [if_pos c94] at H
                 have c94b0 : decide (0 ≤ t447) = true := decide_eq_true c94
                 clear c94
                 by_cases c95 : t447 < (t435.length : Int)
                 ·rw [if_pos c95] at H
                  have c95b0 : decide (t447 < (t435.length : Int)) = true := decide_eq_true c95
                  clear c95
                  by_cases c96 : 0 ≤ x99_3
                  ·rw [if_pos c96] at H
                   have c96b0 : decide (0 ≤ x99_3) = true := decide_eq_true c96
                   clear c96
                   by_cases c97 : x99_3 < (t443.length : Int)
                   ·rw [if_pos c97] at H
                    have c97b0 : decide (x99_3 < (t443.length : Int)) = true := decide_eq_true c97
                    clear c97
                    by_cases c98 : (rd t435 t447) < (rd t443 x99_3)
                    ·rw [if_pos c98] at H
                     have c98b0 : decide ((rd t435 t447) < (rd t443 x99_3)) = true := decide_eq_true c98
                     clear c98
                     obtain rfl := Option.some.inj H
                     have hnb99 := NB414_415.out; have hnc99 := NB415_414.out
                     have hcz100_0 : wr.cell? ⟨gb414, 0, none⟩ = some (.slice A0_0 l0_0.length c0_0) := (blk_cell BK414.out 0).trans rfl
                     have hcz100_1 : wr.cell? ⟨gb414, 1, none⟩ = some (.slice A0_1 l0_1.length c0_1) := (blk_cell BK414.out 1).trans rfl
                     have hcz100_2 : wr.cell? ⟨gb414, 2, none⟩ = some (.slice A0_2 l0_2.length c0_2) := (blk_cell BK414.out 2).trans rfl
                     have hfz100_0 := blk_frozen BK414.out 0; have hfz100_1 := blk_frozen BK414.out 1; have hfz100_2 := blk_frozen BK414.out 2
                     try go_wp2_with (first | ((with_reducible refine gate_callee (f := 18) rfl ?_); refine goesL_ (some 104) rfl rfl Try.func18 (by kernel_rfl) rfl #[.agg #[.slice A0_0 l0_0.length c0_0, .slice A0_1 l0_1.length c0_1, .slice A0_2 l0_2.length c0_2], .int .i64 x99_3] rfl byL ?_; (with_reducible refine (turns_Target.calls k3 _ _ l0_0 _ _ l0_1 _ _ l0_2 x99_3 t447 _ ?side1 ?side2 ?side3 ?side4 ?side5 ?side6 A76.out).mono ?_); (case side1 => exact byC (Kd.C_below HR0_0.out HB.out)); (case side2 => exact HC0_0.out); (case side3 => exact byC (Kd.C_below HR0_1.out HB.out)); (case side4 => exact HC0_1.out); (case side5 => exact byC (Kd.C_below HR0_2.out HB.out)); (case side6 => exact HC0_2.out); rintro e w101 ⟨rfl, hb⟩; refine ⟨_, rfl, ?_⟩; have n0_ := Aside0.mk (Kd.R_below (byR HO_13.out) hb); have n1_ := Aside0.mk (Kd.R_below (byR HO_14.out) hb); have n2_ := Aside0.mk (Kd.R_below (byR HO_16.out) hb); have n3_ := Aside0.mk (blk_below (g := gb414) (o := .cells #[.slice A0_0 l0_0.length c0_0, .slice A0_1 l0_1.length c0_1, .slice A0_2 l0_2.length c0_2] 37 (0, 0)) (byK BK414.out) hb); have n4_ := Aside0.mk (blk_below (g := gb415) (o := .cells #[.int .i64 a2_0, .int .i64 a2_1, .int .i64 a2_2, .bool false] 42 (0, 0)) (byK BK415.out) hb); have n5_ := Aside0.mk (below_step (byB2 HB.out GE414.out GE415.out) hb); clear HO_13 HO_14 HO_16 BK414 BK415 HB; have HO_13 := n0_; have HO_14 := n1_; have HO_16 := n2_; have BK414 := n3_; have BK415 := n4_; have HB := n5_; clear n0_ n1_ n2_ n3_ n4_ n5_; (try clear hb); (try clear hb2); (try clear hk); (try clear hi)))
                     have n0_ := Aside0.mk (Kd.R_drew HO_13.out); have n1_ := Aside0.mk (Kd.R_drew HO_14.out); have n2_ := Aside0.mk (Kd.R_drew HO_16.out); have n3_ := Aside0.mk (blk_drew BK414.out); have n4_ := Aside0.mk (blk_drew BK415.out); have n5_ := Aside0.mk (below_drew1 HB.out); clear HO_13 HO_14 HO_16 BK414 BK415 HB; have HO_13 := n0_; have HO_14 := n1_; have HO_16 := n2_; have BK414 := n3_; have BK415 := n4_; have HB := n5_; clear n0_ n1_ n2_ n3_ n4_ n5_
                     obtain ⟨Ao103, co103, eo103⟩ := Kd.R_slice HO_14.out
                     (first | subst eo103 | (injection eo103 with f1_ f2_ f3_; have f4_ := f1_.symm; have f5_ := f3_.symm; clear f1_ f2_ f3_; subst f4_; subst f5_))
                     have p448 : 0 ≤ (t447 : Int) := odt
                     have q448 : t447 < (t435.length : Int) := odt
                     obtain ⟨ad448, e448, hx448_0⟩ := Kd.at_int (Kd.R_reads' HO_14.out).2.2 t447 p448 q448
                     cases e448
                     replace p448 := eq_true p448; replace q448 := eq_true q448
                     obtain ⟨Ao104, co104, eo104⟩ := Kd.R_slice HO_16.out
                     (first | subst eo104 | (injection eo104 with f1_ f2_ f3_; have f4_ := f1_.symm; have f5_ := f3_.symm; clear f1_ f2_ f3_; subst f4_; subst f5_))
                     have p449 : 0 ≤ (x99_3 : Int) := odt
                     have q449 : x99_3 < (t443.length : Int) := odt
                     obtain ⟨ad449, e449, hx449_0⟩ := Kd.at_int (Kd.R_reads' HO_16.out).2.2 x99_3 p449 q449
                     cases e449
                     replace p449 := eq_true p449; replace q449 := eq_true q449
                     refine start_ (n := 24) (S := fun w' => w'.cell? (ad448.add (t447).toNat) = some (.int .i64 (rd t435 t447)) ∧ w'.cell? (ad449.add (x99_3).toNat) = some (.int .i64 (rd t443 x99_3))) (ds := []) (bits 24 0) (by kernel_rfl) rfl rfl ⟨hx448_0, hx449_0⟩ (fun hHeld => ?_); refine with_tabW mapmakerlaw47_TurnsFrees.tab18 mapmakerlaw47_TurnsFrees.bits18 (fun HT_ HW_ => ?_)
                     generalize w101.drew = w102 at HO_13 HO_14 HO_16 BK414 BK415 HB hx448_0 hx449_0 hHeld ⊢
                     refine q_ 0 105 HT_ ?_; refine q_ 1 106 HT_ ?_; refine q_ 2 107 HT_ ?_; refine q_ 3 108 HT_ ?_; refine q_ 4 109 HT_ ?_; refine q_ 5 110 HT_ ?_; refine q_ 6 111 HT_ ?_; refine q_ 7 112 HT_ ?_; refine q_ 8 113 HT_ ?_; refine q_ 9 114 HT_ ?_; refine q_ 10 115 HT_ ?_; refine q_ 11 116 HT_ ?_; refine q_ 12 117 HT_ ?_; refine q_ 13 118 HT_ ?_; refine q_ 14 119 HT_ ?_; refine q_ 15 120 HT_ ?_; refine q_ 17 122 HT_ ?_; refine q_ 18 123 HT_ ?_; refine q_ 19 124 HT_ ?_; refine r2_ 16 121 HT_ HW_ hHeld ?_; refine r2_ 20 125 HT_ HW_ hHeld ?_; refine q_ 21 126 HT_ ?_; refine q_ 22 127 HT_ ?_; refine q_ 23 128 HT_ ?_
                     refine done_ (done_of HT_.out (by kernel_rfl)) ?_
                     try go_wp2
                     go_ret
                     exact ⟨byE, byB2 HB.out GE414.out GE415.out⟩
                    ·rw [if_neg c98] at H
                     have c98b0 : decide ((rd t435 t447) < (rd t443 x99_3)) = false := decide_eq_false c98
                     clear c98
                     have H' := Aside0.mk H
                     clear H; have hnb105 := NB414_415.out; have hnc105 := NB415_414.out
                     have hcz106_0 : wr.cell? ⟨gb414, 0, none⟩ = some (.slice A0_0 l0_0.length c0_0) := (blk_cell BK414.out 0).trans rfl
                     have hcz106_1 : wr.cell? ⟨gb414, 1, none⟩ = some (.slice A0_1 l0_1.length c0_1) := (blk_cell BK414.out 1).trans rfl
                     have hcz106_2 : wr.cell? ⟨gb414, 2, none⟩ = some (.slice A0_2 l0_2.length c0_2) := (blk_cell BK414.out 2).trans rfl
                     have hfz106_0 := blk_frozen BK414.out 0; have hfz106_1 := blk_frozen BK414.out 1; have hfz106_2 := blk_frozen BK414.out 2
                     try go_wp2_with (first | ((with_reducible refine gate_callee (f := 18) rfl ?_); refine goesL_ (some 104) rfl rfl Try.func18 (by kernel_rfl) rfl #[.agg #[.slice A0_0 l0_0.length c0_0, .slice A0_1 l0_1.length c0_1, .slice A0_2 l0_2.length c0_2], .int .i64 x99_3] rfl byL ?_; (with_reducible refine (turns_Target.calls k3 _ _ l0_0 _ _ l0_1 _ _ l0_2 x99_3 t447 _ ?side1 ?side2 ?side3 ?side4 ?side5 ?side6 A76.out).mono ?_); (case side1 => exact byC (Kd.C_below HR0_0.out HB.out)); (case side2 => exact HC0_0.out); (case side3 => exact byC (Kd.C_below HR0_1.out HB.out)); (case side4 => exact HC0_1.out); (case side5 => exact byC (Kd.C_below HR0_2.out HB.out)); (case side6 => exact HC0_2.out); rintro e w107 ⟨rfl, hb⟩; refine ⟨_, rfl, ?_⟩; have n0_ := Aside0.mk (Kd.R_below (byR HO_13.out) hb); have n1_ := Aside0.mk (Kd.R_below (byR HO_14.out) hb); have n2_ := Aside0.mk (Kd.R_below (byR HO_16.out) hb); have n3_ := Aside0.mk (blk_below (g := gb414) (o := .cells #[.slice A0_0 l0_0.length c0_0, .slice A0_1 l0_1.length c0_1, .slice A0_2 l0_2.length c0_2] 37 (0, 0)) (byK BK414.out) hb); have n4_ := Aside0.mk (blk_below (g := gb415) (o := .cells #[.int .i64 a2_0, .int .i64 a2_1, .int .i64 a2_2, .bool false] 42 (0, 0)) (byK BK415.out) hb); have n5_ := Aside0.mk (below_step (byB2 HB.out GE414.out GE415.out) hb); clear HO_13 HO_14 HO_16 BK414 BK415 HB; have HO_13 := n0_; have HO_14 := n1_; have HO_16 := n2_; have BK414 := n3_; have BK415 := n4_; have HB := n5_; clear n0_ n1_ n2_ n3_ n4_ n5_; (try clear hb); (try clear hb2); (try clear hk); (try clear hi)))
                     have n0_ := Aside0.mk (Kd.R_drew HO_13.out); have n1_ := Aside0.mk (Kd.R_drew HO_14.out); have n2_ := Aside0.mk (Kd.R_drew HO_16.out); have n3_ := Aside0.mk (blk_drew BK414.out); have n4_ := Aside0.mk (blk_drew BK415.out); have n5_ := Aside0.mk (below_drew1 HB.out); clear HO_13 HO_14 HO_16 BK414 BK415 HB; have HO_13 := n0_; have HO_14 := n1_; have HO_16 := n2_; have BK414 := n3_; have BK415 := n4_; have HB := n5_; clear n0_ n1_ n2_ n3_ n4_ n5_
                     obtain ⟨Ao109, co109, eo109⟩ := Kd.R_slice HO_14.out
                     (first | subst eo109 | (injection eo109 with f1_ f2_ f3_; have f4_ := f1_.symm; have f5_ := f3_.symm; clear f1_ f2_ f3_; subst f4_; subst f5_))
                     have p448 : 0 ≤ (t447 : Int) := odt
                     have q448 : t447 < (t435.length : Int) := odt
                     obtain ⟨ad448, e448, hx448_0⟩ := Kd.at_int (Kd.R_reads' HO_14.out).2.2 t447 p448 q448
                     cases e448
                     replace p448 := eq_true p448; replace q448 := eq_true q448
                     obtain ⟨Ao110, co110, eo110⟩ := Kd.R_slice HO_16.out
                     (first | subst eo110 | (injection eo110 with f1_ f2_ f3_; have f4_ := f1_.symm; have f5_ := f3_.symm; clear f1_ f2_ f3_; subst f4_; subst f5_))
                     have p449 : 0 ≤ (x99_3 : Int) := odt
                     have q449 : x99_3 < (t443.length : Int) := odt
                     obtain ⟨ad449, e449, hx449_0⟩ := Kd.at_int (Kd.R_reads' HO_16.out).2.2 x99_3 p449 q449
                     cases e449
                     replace p449 := eq_true p449; replace q449 := eq_true q449
                     refine start_ (n := 24) (S := fun w' => w'.cell? (ad448.add (t447).toNat) = some (.int .i64 (rd t435 t447)) ∧ w'.cell? (ad449.add (x99_3).toNat) = some (.int .i64 (rd t443 x99_3))) (ds := []) (bits 24 0) (by kernel_rfl) rfl rfl ⟨hx448_0, hx449_0⟩ (fun hHeld => ?_); refine with_tabW mapmakerlaw47_TurnsFrees.tab18 mapmakerlaw47_TurnsFrees.bits18 (fun HT_ HW_ => ?_)
                     generalize w107.drew = w108 at HO_13 HO_14 HO_16 BK414 BK415 HB hx448_0 hx449_0 hHeld ⊢
                     refine q_ 0 105 HT_ ?_; refine q_ 1 106 HT_ ?_; refine q_ 2 107 HT_ ?_; refine q_ 3 108 HT_ ?_; refine q_ 4 109 HT_ ?_; refine q_ 5 110 HT_ ?_; refine q_ 6 111 HT_ ?_; refine q_ 7 112 HT_ ?_; refine q_ 8 113 HT_ ?_; refine q_ 9 114 HT_ ?_; refine q_ 10 115 HT_ ?_; refine q_ 11 116 HT_ ?_; refine q_ 12 117 HT_ ?_; refine q_ 13 118 HT_ ?_; refine q_ 14 119 HT_ ?_; refine q_ 15 120 HT_ ?_; refine q_ 17 122 HT_ ?_; refine q_ 18 123 HT_ ?_; refine q_ 19 124 HT_ ?_; refine r2_ 16 121 HT_ HW_ hHeld ?_; refine r2_ 20 125 HT_ HW_ hHeld ?_; refine q_ 21 126 HT_ ?_; refine q_ 22 127 HT_ ?_; refine q_ 23 128 HT_ ?_
                     refine done_ (done_of HT_.out (by kernel_rfl)) ?_
                     try go_wp2
                     go_roundg k3
                     case measure => have := HJ5.out; have := HJ52.out; have := HK3.out; omega
                     case rel => exact ⟨(wrap64 (x99_3 + 1)), byF, H', ⟨by have := HJ5.out; have := HJ52.out; have := HK3.out; omega⟩, ⟨by (with_reducible repeat (first | apply Kd.R_alloc | apply Kd.R_drewN | apply Kd.R_drew)); exact HO_13.out⟩, ⟨by (with_reducible repeat (first | apply Kd.R_alloc | apply Kd.R_drewN | apply Kd.R_drew)); exact HO_14.out⟩, ⟨by (with_reducible repeat (first | apply Kd.R_alloc | apply Kd.R_drewN | apply Kd.R_drew)); exact HO_16.out⟩, ⟨by (with_reducible repeat (first | refine blk_drewN ?_ _ | refine blk_drew ?_ | refine blk_alloc ?_ _)); exact BK414.out⟩, ⟨by (with_reducible repeat (first | refine blk_drewN ?_ _ | refine blk_drew ?_ | refine blk_alloc ?_ _)); exact BK415.out⟩, ⟨byB2 HB.out GE414.out GE415.out⟩⟩
                   ·rw [if_neg c97] at H
                    exact absurd H (by simp)
                  ·rw [if_neg c96] at H
                   exact absurd H (by simp)
                 ·rw [if_neg c95] at H
                  exact absurd H (by simp)
                ·rw [if_neg c94] at H
                 exact absurd H (by simp)
            ·rw [if_neg c75] at H
             have c75b0 : decide (x99_3 < (l0_0.length : Int)) = false := decide_eq_false c75
             clear c75
             have H' := Aside0.mk H
             clear H; have hnb111 := NB414_415.out; have hnc111 := NB415_414.out
             have hcz112_0 : wr.cell? ⟨gb414, 0, none⟩ = some (.slice A0_0 l0_0.length c0_0) := (blk_cell BK414.out 0).trans rfl
             have hcz112_1 : wr.cell? ⟨gb414, 1, none⟩ = some (.slice A0_1 l0_1.length c0_1) := (blk_cell BK414.out 1).trans rfl
             have hcz112_2 : wr.cell? ⟨gb414, 2, none⟩ = some (.slice A0_2 l0_2.length c0_2) := (blk_cell BK414.out 2).trans rfl
             have hfz112_0 := blk_frozen BK414.out 0; have hfz112_1 := blk_frozen BK414.out 1; have hfz112_2 := blk_frozen BK414.out 2
             go_wp2
             go_loopg [133] k3 (fun kq v133 w' => ∃ (x133_4 : Int), v133 = .int .i64 x133_4 ∧ Aside0 (mapmakerlaw47_TurnsFrees.l1 kq l1 y427 (l0_2.length : Int) x133_4 l0_0 l0_1 l0_2 a2_0 a2_1 a2_2 false = some r) ∧ Aside0 (kq ≤ k3) ∧ Aside0 (Kd.R k42 42 w' w.heap.size (fun k_ => k_ ≠ gb415) v428 y427) ∧ Aside0 (w'.heap[gb414]? = some (.cells #[(.slice A0_0 l0_0.length c0_0), (.slice A0_1 l0_1.length c0_1), (.slice A0_2 l0_2.length c0_2)] 37 (0, 0))) ∧ Aside0 (w'.heap[gb415]? = some (.cells #[.int .i64 a2_0, .int .i64 a2_1, .int .i64 a2_2, .bool false] 42 (0, 0))) ∧ Aside0 (Below w.heap.size w w'))
             case atStart => exact ⟨(0), byF, H', ⟨Nat.le_refl _⟩, ⟨by (with_reducible repeat (first | apply Kd.R_alloc | apply Kd.R_drewN | apply Kd.R_drew)); exact HO_13.out⟩, ⟨by (with_reducible repeat (first | refine blk_drewN ?_ _ | refine blk_drew ?_ | refine blk_alloc ?_ _)); exact BK414.out⟩, ⟨by (with_reducible repeat (first | refine blk_drewN ?_ _ | refine blk_drew ?_ | refine blk_alloc ?_ _)); exact BK415.out⟩, ⟨byB2 HB.out GE414.out GE415.out⟩⟩
             case round => as_aux_lemma =>
              clear H'
              try clear c1
              try clear p2
              try clear p4
              try clear q4
              try clear hx4
              try clear p6
              try clear c7
              try clear c8
              try clear c9
              try clear c10
              try clear c11
              try clear c18
              try clear p44
              try clear q44
              try clear hx44
              try clear p64
              try clear c75
              try clear c75b0
              try clear c88
              try clear c88b0
              try clear c88b1
              try clear c94
              try clear c94b0
              try clear c95
              try clear c95b0
              try clear c96
              try clear c96b0
              try clear c97
              try clear c97b0
              try clear c98
              try clear c98b0
              try clear c99
              try clear c105
              try clear c111
              try clear hcz100_0
              try clear hcz100_1
              try clear hcz100_2
              try clear hcz106_0
              try clear hcz106_1
              try clear hcz106_2
              try clear hcz112_0
              try clear hcz112_1
              try clear hcz112_2
              try clear hfz100_0
              try clear hfz100_1
              try clear hfz100_2
              try clear hfz106_0
              try clear hfz106_1
              try clear hfz106_2
              try clear hfz112_0
              try clear hfz112_1
              try clear hfz112_2
              try clear hx448_0
              try clear hx449_0
              try clear p448
              try clear p449
              try clear q448
              try clear q449
              obtain ⟨x133_4, rfl, HA, HK4, HO_13, BK414, BK415, HB⟩ := hrel
              cases gk with
              | zero => exact absurd HA.out (by simp [mapmakerlaw47_TurnsFrees.l1])
              | succ k4 =>
               have H := HA.out; clear HA
               simp only [mapmakerlaw47_TurnsFrees.l1] at H
               by_cases c113 : x133_4 < (l0_2.length : Int)
               ·rw [if_pos c113] at H
                have c113b0 : decide (x133_4 < (l0_2.length : Int)) = true := decide_eq_true c113
                clear c113
                have H' := Aside0.mk H
                clear H; have hnb114 := NB414_415.out; have hnc114 := NB415_414.out
                have hcz115_0 : wr.cell? ⟨gb414, 0, none⟩ = some (.slice A0_0 l0_0.length c0_0) := (blk_cell BK414.out 0).trans rfl
                have hcz115_1 : wr.cell? ⟨gb414, 1, none⟩ = some (.slice A0_1 l0_1.length c0_1) := (blk_cell BK414.out 1).trans rfl
                have hcz115_2 : wr.cell? ⟨gb414, 2, none⟩ = some (.slice A0_2 l0_2.length c0_2) := (blk_cell BK414.out 2).trans rfl
                have hfz115_0 := blk_frozen BK414.out 0; have hfz115_1 := blk_frozen BK414.out 1; have hfz115_2 := blk_frozen BK414.out 2
                go_wp2
                go_loopg [139] k4 (fun kq v139 w' => ∃ (x139_5 : Int), v139 = .int .i64 x139_5 ∧ Aside0 (mapmakerlaw47_TurnsFrees.l2 kq l1 y427 x133_4 (l0_2.length : Int) x133_4 (l0_2.length : Int) x139_5 l0_0 l0_1 l0_2 a2_0 a2_1 a2_2 false = some r) ∧ Aside0 (kq ≤ k4) ∧ Aside0 (Kd.R k42 42 w' w.heap.size (fun k_ => k_ ≠ gb415) v428 y427) ∧ Aside0 (w'.heap[gb414]? = some (.cells #[(.slice A0_0 l0_0.length c0_0), (.slice A0_1 l0_1.length c0_1), (.slice A0_2 l0_2.length c0_2)] 37 (0, 0))) ∧ Aside0 (w'.heap[gb415]? = some (.cells #[.int .i64 a2_0, .int .i64 a2_1, .int .i64 a2_2, .bool false] 42 (0, 0))) ∧ Aside0 (Below w.heap.size w w'))
                case atStart => exact ⟨(0), byF, H', ⟨Nat.le_refl _⟩, ⟨by (with_reducible repeat (first | apply Kd.R_alloc | apply Kd.R_drewN | apply Kd.R_drew)); exact HO_13.out⟩, ⟨by (with_reducible repeat (first | refine blk_drewN ?_ _ | refine blk_drew ?_ | refine blk_alloc ?_ _)); exact BK414.out⟩, ⟨by (with_reducible repeat (first | refine blk_drewN ?_ _ | refine blk_drew ?_ | refine blk_alloc ?_ _)); exact BK415.out⟩, ⟨byB2 HB.out GE414.out GE415.out⟩⟩
                case round => as_aux_lemma =>
                 clear H'
                 try clear c1
                 try clear p2
                 try clear p4
                 try clear q4
                 try clear hx4
                 try clear p6
                 try clear c7
                 try clear c8
                 try clear c9
                 try clear c10
                 try clear c11
                 try clear c18
                 try clear p44
                 try clear q44
                 try clear hx44
                 try clear p64
                 try clear c75
                 try clear c75b0
                 try clear c88
                 try clear c88b0
                 try clear c88b1
                 try clear c94
                 try clear c94b0
                 try clear c95
                 try clear c95b0
                 try clear c96
                 try clear c96b0
                 try clear c97
                 try clear c97b0
                 try clear c98
                 try clear c98b0
                 try clear c99
                 try clear c105
                 try clear c111
                 try clear c113
                 try clear c113b0
                 try clear c114
                 try clear hcz100_0
                 try clear hcz100_1
                 try clear hcz100_2
                 try clear hcz106_0
                 try clear hcz106_1
                 try clear hcz106_2
                 try clear hcz112_0
                 try clear hcz112_1
                 try clear hcz112_2
                 try clear hcz115_0
                 try clear hcz115_1
                 try clear hcz115_2
                 try clear hfz100_0
                 try clear hfz100_1
                 try clear hfz100_2
                 try clear hfz106_0
                 try clear hfz106_1
                 try clear hfz106_2
                 try clear hfz112_0
                 try clear hfz112_1
                 try clear hfz112_2
                 try clear hfz115_0
                 try clear hfz115_1
                 try clear hfz115_2
                 try clear hx448_0
                 try clear hx449_0
                 try clear p2
                 try clear p4
                 try clear p44
                 try clear p448
                 try clear p449
                 try clear p6
                 try clear p64
                 try clear q4
                 try clear q44
                 try clear q448
                 try clear q449
                 obtain ⟨x139_5, rfl, HA, HK5, HO_13, BK414, BK415, HB⟩ := hrel
                 cases gk with
                 | zero => exact absurd HA.out (by simp [mapmakerlaw47_TurnsFrees.l2])
                 | succ k5 =>
                  have H := HA.out; clear HA
                  simp only [mapmakerlaw47_TurnsFrees.l2] at H
                  by_cases c116 : x139_5 < (l0_2.length : Int)
                  ·rw [if_pos c116] at H
                   have c116b0 : decide (x139_5 < (l0_2.length : Int)) = true := decide_eq_true c116
                   clear c116
                   replace H := Option.bind_eq_some_iff.mp H
                   obtain ⟨t451, A1170, H⟩ := H
                   replace H : ((turns_Allowed.f l0_0 l0_1 l0_2 y427 x133_4 x139_5).bind fun t452 => (if t452 = true then (if t451 = true then (if 0 ≤ x133_4 then (if x133_4 < (l0_2.length : Int) then (if 0 ≤ ((rd_T58 l0_2 x133_4).f1) then (if ((rd_T58 l0_2 x133_4).f1) < (l0_0.length : Int) then (if a2_1 = (rd l0_0 ((rd_T58 l0_2 x133_4).f1)) then (mapmakerlaw47_TurnsFrees.l2 k5 l1 y427 x133_4 (l0_2.length : Int) x133_4 (l0_2.length : Int) (wrap64 (x139_5 + 1)) l0_0 l0_1 l0_2 a2_0 a2_1 a2_2 false) else (if (t451 != t452) = true then (some false) else (mapmakerlaw47_TurnsFrees.l2 k5 l1 y427 x133_4 (l0_2.length : Int) x133_4 (l0_2.length : Int) (wrap64 (x139_5 + 1)) l0_0 l0_1 l0_2 a2_0 a2_1 a2_2 false))) else (none)) else (none)) else (none)) else (none)) else (some false)) else (if 0 ≤ x133_4 then (if x133_4 < (l0_2.length : Int) then (if 0 ≤ ((rd_T58 l0_2 x133_4).f1) then (if ((rd_T58 l0_2 x133_4).f1) < (l0_0.length : Int) then (if a2_1 = (rd l0_0 ((rd_T58 l0_2 x133_4).f1)) then (mapmakerlaw47_TurnsFrees.l2 k5 l1 y427 x133_4 (l0_2.length : Int) x133_4 (l0_2.length : Int) (wrap64 (x139_5 + 1)) l0_0 l0_1 l0_2 a2_0 a2_1 a2_2 false) else (if (t451 != t452) = true then (some false) else (mapmakerlaw47_TurnsFrees.l2 k5 l1 y427 x133_4 (l0_2.length : Int) x133_4 (l0_2.length : Int) (wrap64 (x139_5 + 1)) l0_0 l0_1 l0_2 a2_0 a2_1 a2_2 false))) else (none)) else (none)) else (none)) else (none)))) = some r := H
                   have A117 := Aside0.mk A1170; clear A1170
                   replace H := Option.bind_eq_some_iff.mp H
                   obtain ⟨t452, A1180, H⟩ := H
                   replace H : (if t452 = true then (if t451 = true then (if 0 ≤ x133_4 then (if x133_4 < (l0_2.length : Int) then (if 0 ≤ ((rd_T58 l0_2 x133_4).f1) then (if ((rd_T58 l0_2 x133_4).f1) < (l0_0.length : Int) then (if a2_1 = (rd l0_0 ((rd_T58 l0_2 x133_4).f1)) then (mapmakerlaw47_TurnsFrees.l2 k5 l1 y427 x133_4 (l0_2.length : Int) x133_4 (l0_2.length : Int) (wrap64 (x139_5 + 1)) l0_0 l0_1 l0_2 a2_0 a2_1 a2_2 false) else (if (t451 != t452) = true then (some false) else (mapmakerlaw47_TurnsFrees.l2 k5 l1 y427 x133_4 (l0_2.length : Int) x133_4 (l0_2.length : Int) (wrap64 (x139_5 + 1)) l0_0 l0_1 l0_2 a2_0 a2_1 a2_2 false))) else (none)) else (none)) else (none)) else (none)) else (some false)) else (if 0 ≤ x133_4 then (if x133_4 < (l0_2.length : Int) then (if 0 ≤ ((rd_T58 l0_2 x133_4).f1) then (if ((rd_T58 l0_2 x133_4).f1) < (l0_0.length : Int) then (if a2_1 = (rd l0_0 ((rd_T58 l0_2 x133_4).f1)) then (mapmakerlaw47_TurnsFrees.l2 k5 l1 y427 x133_4 (l0_2.length : Int) x133_4 (l0_2.length : Int) (wrap64 (x139_5 + 1)) l0_0 l0_1 l0_2 a2_0 a2_1 a2_2 false) else (if (t451 != t452) = true then (some false) else (mapmakerlaw47_TurnsFrees.l2 k5 l1 y427 x133_4 (l0_2.length : Int) x133_4 (l0_2.length : Int) (wrap64 (x139_5 + 1)) l0_0 l0_1 l0_2 a2_0 a2_1 a2_2 false))) else (none)) else (none)) else (none)) else (none))) = some r := H
                   have A118 := Aside0.mk A1180; clear A1180
                   by_cases c119 : t452 = true
                   ·subst c119
                    have H1 : (if t451 = true then (if 0 ≤ x133_4 then (if x133_4 < (l0_2.length : Int) then (if 0 ≤ ((rd_T58 l0_2 x133_4).f1) then (if ((rd_T58 l0_2 x133_4).f1) < (l0_0.length : Int) then (if a2_1 = (rd l0_0 ((rd_T58 l0_2 x133_4).f1)) then (mapmakerlaw47_TurnsFrees.l2 k5 l1 y427 x133_4 (l0_2.length : Int) x133_4 (l0_2.length : Int) (wrap64 (x139_5 + 1)) l0_0 l0_1 l0_2 a2_0 a2_1 a2_2 false) else (if (t451 != true) = true then (some false) else (mapmakerlaw47_TurnsFrees.l2 k5 l1 y427 x133_4 (l0_2.length : Int) x133_4 (l0_2.length : Int) (wrap64 (x139_5 + 1)) l0_0 l0_1 l0_2 a2_0 a2_1 a2_2 false))) else (none)) else (none)) else (none)) else (none)) else (some false)) = some r := by rw [if_pos rfl] at H; exact H
                    clear H; have H := H1; clear H1
                    by_cases c120 : t451 = true
                    ·subst c120
                     have H1 : (if 0 ≤ x133_4 then (if x133_4 < (l0_2.length : Int) then (if 0 ≤ ((rd_T58 l0_2 x133_4).f1) then (if ((rd_T58 l0_2 x133_4).f1) < (l0_0.length : Int) then (if a2_1 = (rd l0_0 ((rd_T58 l0_2 x133_4).f1)) then (mapmakerlaw47_TurnsFrees.l2 k5 l1 y427 x133_4 (l0_2.length : Int) x133_4 (l0_2.length : Int) (wrap64 (x139_5 + 1)) l0_0 l0_1 l0_2 a2_0 a2_1 a2_2 false) else (if (true != true) = true then (some false) else (mapmakerlaw47_TurnsFrees.l2 k5 l1 y427 x133_4 (l0_2.length : Int) x133_4 (l0_2.length : Int) (wrap64 (x139_5 + 1)) l0_0 l0_1 l0_2 a2_0 a2_1 a2_2 false))) else (none)) else (none)) else (none)) else (none)) = some r := by rw [if_pos rfl] at H; exact H
                     clear H; have H := H1; clear H1
                     by_cases c121 : 0 ≤ x133_4
                     ·rw [if_pos c121] at H
                      have c121b0 : decide (0 ≤ x133_4) = true := decide_eq_true c121
                      clear c121
                      by_cases c122 : x133_4 < (l0_2.length : Int)
                      ·rw [if_pos c122] at H
                       have c122b0 : decide (x133_4 < (l0_2.length : Int)) = true := decide_eq_true c122
                       clear c122
                       by_cases c123 : 0 ≤ ((rd_T58 l0_2 x133_4).f1)
                       ·rw [if_pos c123] at H
                        have c123b0 : decide (0 ≤ ((rd_T58 l0_2 x133_4).f1)) = true := decide_eq_true c123
                        clear c123
                        by_cases c124 : ((rd_T58 l0_2 x133_4).f1) < (l0_0.length : Int)
                        ·rw [if_pos c124] at H
                         have c124b0 : decide (((rd_T58 l0_2 x133_4).f1) < (l0_0.length : Int)) = true := decide_eq_true c124
                         clear c124
                         by_cases c125 : a2_1 = (rd l0_0 ((rd_T58 l0_2 x133_4).f1))
                         ·rw [if_pos c125] at H
                          have c125b0 : (a2_1 == (rd l0_0 ((rd_T58 l0_2 x133_4).f1))) = true := beq_iff_eq.mpr c125
                          have c125b1 : (a2_1 != (rd l0_0 ((rd_T58 l0_2 x133_4).f1))) = false := bne_eq_false_iff_eq.mpr c125
                          clear c125
                          have H' := Aside0.mk H
                          clear H
                          try go_wp2
                          have n0_ := Aside0.mk (Kd.R_drew HO_13.out); have n1_ := Aside0.mk (blk_drew BK414.out); have n2_ := Aside0.mk (blk_drew BK415.out); have n3_ := Aside0.mk (below_drew1 HB.out); clear HO_13 BK414 BK415 HB; have HO_13 := n0_; have BK414 := n1_; have BK415 := n2_; have HB := n3_; clear n0_ n1_ n2_ n3_
                          refine start_ (n := 12) (S := fun w' => w'.cell? ⟨gb414, 0, none⟩ = some (.slice A0_0 l0_0.length c0_0) ∧ w'.cell? ⟨gb414, 1, none⟩ = some (.slice A0_1 l0_1.length c0_1) ∧ w'.cell? ⟨gb414, 2, none⟩ = some (.slice A0_2 l0_2.length c0_2)) (ds := []) (bits 12 0) (by kernel_rfl) rfl rfl ⟨(blk_cell BK414.out 0).trans rfl, (blk_cell BK414.out 1).trans rfl, (blk_cell BK414.out 2).trans rfl⟩ (fun hHeld => ?_); refine with_tabW mapmakerlaw47_TurnsFrees.tab27 mapmakerlaw47_TurnsFrees.bits27 (fun HT_ HW_ => ?_)
                          generalize wr.drew = w126 at HO_13 BK414 BK415 HB hHeld ⊢
                          refine q_ 1 143 HT_ ?_; refine q_ 2 144 HT_ ?_; refine q_ 3 145 HT_ ?_; refine q_ 6 148 HT_ ?_; refine q_ 7 149 HT_ ?_; refine q_ 8 150 HT_ ?_; refine r3_ 0 142 HT_ HW_ hHeld ?_; refine r3_ 5 147 HT_ HW_ hHeld ?_; refine one_ (i := 4) (N := some 146) (bits 12 511) rfl rfl (one_of HT_.out (by kernel_rfl)) (by decide) (fun K hK => ?_)
                          refine goes_ Try.func14 (by kernel_rfl) rfl #[.agg #[.slice A0_0 l0_0.length c0_0, .slice A0_1 l0_1.length c0_1, .slice A0_2 l0_2.length c0_2], .slice A1 l1.length c1, .int .i64 x133_4, .int .i64 x139_5] (by rfl) rfl rfl byL ?_
                          with_reducible refine (turns_Allowed.calls _ _ l0_0 _ _ l0_1 _ _ l0_2 _ _ l1 x133_4 x139_5 true _ ?side1 ?side2 ?side3 ?side4 ?side5 ?side6 ?side7 ?side8 A117.out).mono ?_
                          (case side1 => exact byC (Kd.C_below HR0_0.out HB.out))
                          (case side2 => exact HC0_0.out)
                          (case side3 => exact byC (Kd.C_below HR0_1.out HB.out))
                          (case side4 => exact HC0_1.out)
                          (case side5 => exact byC (Kd.C_below HR0_2.out HB.out))
                          (case side6 => exact HC0_2.out)
                          (case side7 => exact byC (Kd.C_below HR1.out HB.out))
                          (case side8 => exact HC1.out)
                          rintro e w127 ⟨rfl, hb⟩
                          refine ⟨_, rfl, ?_⟩
                          have n0_ := Aside0.mk (Kd.R_below (byR HO_13.out) hb); have n1_ := Aside0.mk (blk_below (g := gb414) (o := .cells #[.slice A0_0 l0_0.length c0_0, .slice A0_1 l0_1.length c0_1, .slice A0_2 l0_2.length c0_2] 37 (0, 0)) (byK BK414.out) hb); have n2_ := Aside0.mk (blk_below (g := gb415) (o := .cells #[.int .i64 a2_0, .int .i64 a2_1, .int .i64 a2_2, .bool false] 42 (0, 0)) (byK BK415.out) hb); have n3_ := Aside0.mk (below_step (byB2 HB.out GE414.out GE415.out) hb); clear HO_13 BK414 BK415 HB; have HO_13 := n0_; have BK414 := n1_; have BK415 := n2_; have HB := n3_; clear n0_ n1_ n2_ n3_
                          (try clear hb)
                          (try clear hb2)
                          (try clear hk)
                          (try clear hi)
                          obtain ⟨Ao128, co128, eo128⟩ := Kd.R_slice HO_13.out
                          (first | subst eo128 | (injection eo128 with f1_ f2_ f3_; have f4_ := f1_.symm; have f5_ := f3_.symm; clear f1_ f2_ f3_; subst f4_; subst f5_))
                          refine hK.out _ _ ⟨(blk_cell BK414.out 0).trans rfl, (blk_cell BK414.out 1).trans rfl, (blk_cell BK414.out 2).trans rfl⟩ (fun hHeld => ?_)
                          clear hK K
                          refine norm_ (a' := ?_) ?_ ?_
                          rotate_left
                          ·show Act.put _ (some 146) _ = _
                           simp only [putW]; rfl
                          refine one_ (i := 9) (N := some 151) (bits 12 1023) rfl rfl (one_of HT_.out (by kernel_rfl)) (by decide) (fun K hK => ?_)
                          refine goes_ Try.func14 (by kernel_rfl) rfl #[.agg #[.slice A0_0 l0_0.length c0_0, .slice A0_1 l0_1.length c0_1, .slice A0_2 l0_2.length c0_2], .slice Ao128 y427.length co128, .int .i64 x133_4, .int .i64 x139_5] (by rfl) rfl rfl byL ?_
                          with_reducible refine (turns_Allowed.calls _ _ l0_0 _ _ l0_1 _ _ l0_2 _ _ y427 x133_4 x139_5 true _ ?side1 ?side2 ?side3 ?side4 ?side5 ?side6 ?side7 ?side8 A118.out).mono ?_
                          (case side1 => exact byC (Kd.C_below HR0_0.out HB.out))
                          (case side2 => exact HC0_0.out)
                          (case side3 => exact byC (Kd.C_below HR0_1.out HB.out))
                          (case side4 => exact HC0_1.out)
                          (case side5 => exact byC (Kd.C_below HR0_2.out HB.out))
                          (case side6 => exact HC0_2.out)
                          (case side7 => repeat (first | exact (Kd.R_reads' HO_13.out).2.2 | (with_reducible refine Kd.C_alloc ?_ _) | (with_reducible refine Kd.C_drewN ?_ _) | (with_reducible refine Kd.C_drew ?_)))
                          (case side8 => exact (Kd.R_reads' HO_13.out).2.1)
                          rintro e w129 ⟨rfl, hb⟩
                          refine ⟨_, rfl, ?_⟩
                          have n0_ := Aside0.mk (Kd.R_below (byR HO_13.out) hb); have n1_ := Aside0.mk (blk_below (g := gb414) (o := .cells #[.slice A0_0 l0_0.length c0_0, .slice A0_1 l0_1.length c0_1, .slice A0_2 l0_2.length c0_2] 37 (0, 0)) (byK BK414.out) hb); have n2_ := Aside0.mk (blk_below (g := gb415) (o := .cells #[.int .i64 a2_0, .int .i64 a2_1, .int .i64 a2_2, .bool false] 42 (0, 0)) (byK BK415.out) hb); have n3_ := Aside0.mk (below_step (byB2 HB.out GE414.out GE415.out) hb); clear HO_13 BK414 BK415 HB; have HO_13 := n0_; have BK414 := n1_; have BK415 := n2_; have HB := n3_; clear n0_ n1_ n2_ n3_
                          (try clear hb)
                          (try clear hb2)
                          (try clear hk)
                          (try clear hi)
                          refine hK.out _ _ ⟨(blk_cell BK414.out 0).trans rfl, (blk_cell BK414.out 1).trans rfl, (blk_cell BK414.out 2).trans rfl⟩ (fun hHeld => ?_)
                          clear hK K
                          refine norm_ (a' := ?_) ?_ ?_
                          rotate_left
                          ·show Act.put _ (some 151) _ = _
                           simp only [putW]; rfl
                          refine q_ 10 22 HT_ ?_; refine q_ 11 23 HT_ ?_
                          refine done_ (done_of HT_.out (by kernel_rfl)) ?_
                          try go_wp2
                          have n0_ := Aside0.mk (Kd.R_drew HO_13.out); have n1_ := Aside0.mk (blk_drew BK414.out); have n2_ := Aside0.mk (blk_drew BK415.out); have n3_ := Aside0.mk (below_drew1 HB.out); clear HO_13 BK414 BK415 HB; have HO_13 := n0_; have BK414 := n1_; have BK415 := n2_; have HB := n3_; clear n0_ n1_ n2_ n3_
                          have p453 : 0 ≤ (x133_4 : Int) := odt
                          have q453 : x133_4 < (l0_2.length : Int) := odt
                          obtain ⟨ad453, A453_5, c453_5, e453, hx453_0, hx453_1, hx453_2, hx453_3, hx453_4, hx453_5, hx453_6, hx453_7, hl453_5, hi453_5⟩ := at_T58 HR0_2.out x133_4 p453 q453
                          have hw453_7 := hx453_7; have hw453_6 := hx453_6; have hw453_5 := hx453_5; have hw453_4 := hx453_4; have hw453_3 := hx453_3; have hw453_2 := hx453_2; have hw453_1 := hx453_1; have hw453_0 := hx453_0
                          cases e453
                          replace hx453_0 := (HB.out.cell (World.block_lt_of_cell? w _ hx453_0)).trans hx453_0
                          replace hx453_1 := (HB.out.cell (World.block_lt_of_cell? w _ hx453_1)).trans hx453_1
                          replace hx453_2 := (HB.out.cell (World.block_lt_of_cell? w _ hx453_2)).trans hx453_2
                          replace hx453_3 := (HB.out.cell (World.block_lt_of_cell? w _ hx453_3)).trans hx453_3
                          replace hx453_4 := (HB.out.cell (World.block_lt_of_cell? w _ hx453_4)).trans hx453_4
                          replace hx453_5 := (HB.out.cell (World.block_lt_of_cell? w _ hx453_5)).trans hx453_5
                          replace hx453_6 := (HB.out.cell (World.block_lt_of_cell? w _ hx453_6)).trans hx453_6
                          replace hx453_7 := (HB.out.cell (World.block_lt_of_cell? w _ hx453_7)).trans hx453_7
                          have HR453_5 := Aside0.mk hi453_5; have HC453_5 := Aside0.mk hl453_5; clear hi453_5 hl453_5; replace p453 := eq_true p453; replace q453 := eq_true q453
                          have p454 : 0 ≤ (((rd_T58 l0_2 x133_4).f1) : Int) := odt
                          have q454 : ((rd_T58 l0_2 x133_4).f1) < (l0_0.length : Int) := odt
                          obtain ⟨ad454, e454, hx454_0⟩ := Kd.at_int HR0_0.out ((rd_T58 l0_2 x133_4).f1) p454 q454
                          have hw454_0 := hx454_0
                          cases e454
                          replace hx454_0 := (HB.out.cell (World.block_lt_of_cell? w _ hx454_0)).trans hx454_0
                          replace p454 := eq_true p454; replace q454 := eq_true q454
                          refine start_ (n := 25) (S := fun w' => w'.cell? ⟨gb415, 0, none⟩ = some (.int .i64 a2_0) ∧ w'.cell? ⟨gb415, 1, none⟩ = some (.int .i64 a2_1) ∧ w'.cell? ⟨gb415, 2, none⟩ = some (.int .i64 a2_2) ∧ w'.cell? ⟨gb415, 3, none⟩ = some (.bool false) ∧ w'.cell? ⟨gb414, 0, none⟩ = some (.slice (some ad454) l0_0.length c0_0) ∧ w'.cell? ⟨gb414, 1, none⟩ = some (.slice A0_1 l0_1.length c0_1) ∧ w'.cell? ⟨gb414, 2, none⟩ = some (.slice (some ad453) l0_2.length c0_2) ∧ w'.cell? (ad453.add ((x133_4).toNat * 8)) = some (.int .i64 ((rd_T58 l0_2 x133_4).f0)) ∧ w'.cell? ⟨(ad453.add ((x133_4).toNat * 8)).block, (ad453.add ((x133_4).toNat * 8)).off + 1, none⟩ = some (.int .i64 ((rd_T58 l0_2 x133_4).f1)) ∧ w'.cell? ⟨(ad453.add ((x133_4).toNat * 8)).block, (ad453.add ((x133_4).toNat * 8)).off + 2, none⟩ = some (.int .i64 ((rd_T58 l0_2 x133_4).f2)) ∧ w'.cell? ⟨(ad453.add ((x133_4).toNat * 8)).block, (ad453.add ((x133_4).toNat * 8)).off + 3, none⟩ = some (.int .i64 ((rd_T58 l0_2 x133_4).f3)) ∧ w'.cell? ⟨(ad453.add ((x133_4).toNat * 8)).block, (ad453.add ((x133_4).toNat * 8)).off + 4, none⟩ = some (.int .i64 ((rd_T58 l0_2 x133_4).f4)) ∧ w'.cell? ⟨(ad453.add ((x133_4).toNat * 8)).block, (ad453.add ((x133_4).toNat * 8)).off + 5, none⟩ = some (.slice A453_5 ((rd_T58 l0_2 x133_4).f5.f0).length c453_5) ∧ w'.cell? ⟨(ad453.add ((x133_4).toNat * 8)).block, (ad453.add ((x133_4).toNat * 8)).off + 6, none⟩ = some (.int .i64 ((rd_T58 l0_2 x133_4).f5.f1)) ∧ w'.cell? ⟨(ad453.add ((x133_4).toNat * 8)).block, (ad453.add ((x133_4).toNat * 8)).off + 7, none⟩ = some (.int .i64 ((rd_T58 l0_2 x133_4).f5.f2)) ∧ w'.cell? (ad454.add (((rd_T58 l0_2 x133_4).f1)).toNat) = some (.int .i64 (rd l0_0 ((rd_T58 l0_2 x133_4).f1)))) (ds := []) (bits 25 0) (by kernel_rfl) rfl rfl ⟨(blk_cell BK415.out 0).trans rfl, (blk_cell BK415.out 1).trans rfl, (blk_cell BK415.out 2).trans rfl, (blk_cell BK415.out 3).trans rfl, (blk_cell BK414.out 0).trans rfl, (blk_cell BK414.out 1).trans rfl, (blk_cell BK414.out 2).trans rfl, ((HB.out.cell (World.block_lt_of_cell? w _ hw453_0)).trans hw453_0), ((HB.out.cell (World.block_lt_of_cell? w _ hw453_1)).trans hw453_1), ((HB.out.cell (World.block_lt_of_cell? w _ hw453_2)).trans hw453_2), ((HB.out.cell (World.block_lt_of_cell? w _ hw453_3)).trans hw453_3), ((HB.out.cell (World.block_lt_of_cell? w _ hw453_4)).trans hw453_4), ((HB.out.cell (World.block_lt_of_cell? w _ hw453_5)).trans hw453_5), ((HB.out.cell (World.block_lt_of_cell? w _ hw453_6)).trans hw453_6), ((HB.out.cell (World.block_lt_of_cell? w _ hw453_7)).trans hw453_7), ((HB.out.cell (World.block_lt_of_cell? w _ hw454_0)).trans hw454_0)⟩ (fun hHeld => ?_); refine with_tabW mapmakerlaw47_TurnsFrees.tab28 mapmakerlaw47_TurnsFrees.bits28 (fun HT_ HW_ => ?_)
                          generalize w129.drew = w130 at HO_13 BK414 BK415 HB HR453_5 hx453_0 hx453_1 hx453_2 hx453_3 hx453_4 hx453_5 hx453_6 hx453_7 hx454_0 hHeld ⊢
                          refine q_ 0 152 HT_ ?_; refine q_ 1 153 HT_ ?_; refine q_ 2 154 HT_ ?_; refine q_ 3 155 HT_ ?_; refine q_ 4 156 HT_ ?_; refine q_ 5 157 HT_ ?_; refine q_ 6 158 HT_ ?_; refine q_ 8 160 HT_ ?_; refine q_ 10 162 HT_ ?_; refine q_ 12 164 HT_ ?_; refine take_ (i := 7) (N := some 159) (v := ?_) (a' := ?_) (bits 25 5631) rfl rfl (take_ofW HT_.out HW_.out (by kernel_rfl)) (fun _ _ _ h => h) (Or.inl ⟨by rfl, ?_⟩) hHeld ?_ ?_; rotate_left; (·rintro w' ⟨s0, s1, s2, s3, s4, s5, s6, s7, s8, s9, s10, s11, s12, s13, s14, s15⟩; go_simp; with_reducible rfl); rotate_left; (·simp only [putW]; rfl); refine take_ (i := 9) (N := some 161) (v := ?_) (a' := ?_) (bits 25 6143) rfl rfl (take_ofW HT_.out HW_.out (by kernel_rfl)) (fun _ _ _ h => h) (Or.inl ⟨by rfl, ?_⟩) hHeld ?_ ?_; rotate_left; (·rintro w' ⟨s0, s1, s2, s3, s4, s5, s6, s7, s8, s9, s10, s11, s12, s13, s14, s15⟩; go_simp; with_reducible rfl); rotate_left; (·simp only [putW]; rfl); refine take_ (i := 11) (N := some 163) (v := ?_) (a' := ?_) (bits 25 8191) rfl rfl (take_ofW HT_.out HW_.out (by kernel_rfl)) (fun _ _ _ h => h) (Or.inl ⟨by rfl, ?_⟩) hHeld ?_ ?_; rotate_left; (·rintro w' ⟨s0, s1, s2, s3, s4, s5, s6, s7, s8, s9, s10, s11, s12, s13, s14, s15⟩; go_simp; with_reducible rfl); rotate_left; (·simp only [putW]; rfl); refine q_ 13 165 HT_ ?_; refine q_ 14 166 HT_ ?_; refine take_ (i := 15) (N := some 167) (v := ?_) (a' := ?_) (bits 25 65535) rfl rfl (take_ofW HT_.out HW_.out (by kernel_rfl)) (fun _ _ _ h => h) (Or.inl ⟨by rfl, ?_⟩) hHeld ?_ ?_; rotate_left; (·rintro w' ⟨s0, s1, s2, s3, s4, s5, s6, s7, s8, s9, s10, s11, s12, s13, s14, s15⟩; go_simp; with_reducible rfl); rotate_left; (·simp only [putW]; rfl); refine q_ 16 168 HT_ ?_; refine take_ (i := 17) (N := some 169) (v := ?_) (a' := ?_) (bits 25 262143) rfl rfl (take_ofW HT_.out HW_.out (by kernel_rfl)) (fun _ _ _ h => h) (Or.inl ⟨by rfl, ?_⟩) hHeld ?_ ?_; rotate_left; (·rintro w' ⟨s0, s1, s2, s3, s4, s5, s6, s7, s8, s9, s10, s11, s12, s13, s14, s15⟩; go_simp; with_reducible rfl); rotate_left; (·simp only [putW]; rfl); refine q_ 18 170 HT_ ?_; refine q_ 19 171 HT_ ?_; refine qu_ 20 172 HT_ ?_; refine qu_ 21 173 HT_ ?_; refine qu_ 22 174 HT_ ?_; refine q_ 23 175 HT_ ?_; refine q_ 24 176 HT_ ?_
                          refine done_ (done_of HT_.out (by kernel_rfl)) ?_
                          try go_wp2
                          go_roundg k5
                          case measure => have := HJ5.out; have := HJ52.out; have := HK3.out; have := HK4.out; have := HK5.out; omega
                          case rel => exact ⟨(wrap64 (x139_5 + 1)), byF, H', ⟨by have := HJ5.out; have := HJ52.out; have := HK3.out; have := HK4.out; have := HK5.out; omega⟩, ⟨by (with_reducible repeat (first | apply Kd.R_alloc | apply Kd.R_drewN | apply Kd.R_drew)); exact HO_13.out⟩, ⟨by (with_reducible repeat (first | refine blk_drewN ?_ _ | refine blk_drew ?_ | refine blk_alloc ?_ _)); exact BK414.out⟩, ⟨by (with_reducible repeat (first | refine blk_drewN ?_ _ | refine blk_drew ?_ | refine blk_alloc ?_ _)); exact BK415.out⟩, ⟨byB2 HB.out GE414.out GE415.out⟩⟩
                         ·rw [if_neg c125] at H
                          have c125b0 : (a2_1 == (rd l0_0 ((rd_T58 l0_2 x133_4).f1))) = false := beq_eq_false_iff_ne.mpr c125
                          have c125b1 : (a2_1 != (rd l0_0 ((rd_T58 l0_2 x133_4).f1))) = true := bne_iff_ne.mpr c125
                          by_cases c131 : (true != true) = true
                          ·exact absurd c131 (by decide)
                          ·rw [if_neg c131] at H
                           have c131b0 : (true != true) = false := by decide
                           (try (have c131b1 : decide (true = true) = true := by decide))
                           (try (have c131b2 : (true == true) = true := by decide))
                           clear c131
                           have H' := Aside0.mk H
                           clear H
                           try go_wp2
                           have n0_ := Aside0.mk (Kd.R_drew HO_13.out); have n1_ := Aside0.mk (blk_drew BK414.out); have n2_ := Aside0.mk (blk_drew BK415.out); have n3_ := Aside0.mk (below_drew1 HB.out); clear HO_13 BK414 BK415 HB; have HO_13 := n0_; have BK414 := n1_; have BK415 := n2_; have HB := n3_; clear n0_ n1_ n2_ n3_
                           refine start_ (n := 12) (S := fun w' => w'.cell? ⟨gb414, 0, none⟩ = some (.slice A0_0 l0_0.length c0_0) ∧ w'.cell? ⟨gb414, 1, none⟩ = some (.slice A0_1 l0_1.length c0_1) ∧ w'.cell? ⟨gb414, 2, none⟩ = some (.slice A0_2 l0_2.length c0_2)) (ds := []) (bits 12 0) (by kernel_rfl) rfl rfl ⟨(blk_cell BK414.out 0).trans rfl, (blk_cell BK414.out 1).trans rfl, (blk_cell BK414.out 2).trans rfl⟩ (fun hHeld => ?_); refine with_tabW mapmakerlaw47_TurnsFrees.tab27 mapmakerlaw47_TurnsFrees.bits27 (fun HT_ HW_ => ?_)
                           generalize wr.drew = w137 at HO_13 BK414 BK415 HB hHeld ⊢
                           refine q_ 1 143 HT_ ?_; refine q_ 2 144 HT_ ?_; refine q_ 3 145 HT_ ?_; refine q_ 6 148 HT_ ?_; refine q_ 7 149 HT_ ?_; refine q_ 8 150 HT_ ?_; refine r3_ 0 142 HT_ HW_ hHeld ?_; refine r3_ 5 147 HT_ HW_ hHeld ?_; refine one_ (i := 4) (N := some 146) (bits 12 511) rfl rfl (one_of HT_.out (by kernel_rfl)) (by decide) (fun K hK => ?_)
                           refine goes_ Try.func14 (by kernel_rfl) rfl #[.agg #[.slice A0_0 l0_0.length c0_0, .slice A0_1 l0_1.length c0_1, .slice A0_2 l0_2.length c0_2], .slice A1 l1.length c1, .int .i64 x133_4, .int .i64 x139_5] (by rfl) rfl rfl byL ?_
                           with_reducible refine (turns_Allowed.calls _ _ l0_0 _ _ l0_1 _ _ l0_2 _ _ l1 x133_4 x139_5 true _ ?side1 ?side2 ?side3 ?side4 ?side5 ?side6 ?side7 ?side8 A117.out).mono ?_
                           (case side1 => exact byC (Kd.C_below HR0_0.out HB.out))
                           (case side2 => exact HC0_0.out)
                           (case side3 => exact byC (Kd.C_below HR0_1.out HB.out))
                           (case side4 => exact HC0_1.out)
                           (case side5 => exact byC (Kd.C_below HR0_2.out HB.out))
                           (case side6 => exact HC0_2.out)
                           (case side7 => exact byC (Kd.C_below HR1.out HB.out))
                           (case side8 => exact HC1.out)
                           rintro e w138 ⟨rfl, hb⟩
                           refine ⟨_, rfl, ?_⟩
                           have n0_ := Aside0.mk (Kd.R_below (byR HO_13.out) hb); have n1_ := Aside0.mk (blk_below (g := gb414) (o := .cells #[.slice A0_0 l0_0.length c0_0, .slice A0_1 l0_1.length c0_1, .slice A0_2 l0_2.length c0_2] 37 (0, 0)) (byK BK414.out) hb); have n2_ := Aside0.mk (blk_below (g := gb415) (o := .cells #[.int .i64 a2_0, .int .i64 a2_1, .int .i64 a2_2, .bool false] 42 (0, 0)) (byK BK415.out) hb); have n3_ := Aside0.mk (below_step (byB2 HB.out GE414.out GE415.out) hb); clear HO_13 BK414 BK415 HB; have HO_13 := n0_; have BK414 := n1_; have BK415 := n2_; have HB := n3_; clear n0_ n1_ n2_ n3_
                           (try clear hb)
                           (try clear hb2)
                           (try clear hk)
                           (try clear hi)
                           obtain ⟨Ao139, co139, eo139⟩ := Kd.R_slice HO_13.out
                           (first | subst eo139 | (injection eo139 with f1_ f2_ f3_; have f4_ := f1_.symm; have f5_ := f3_.symm; clear f1_ f2_ f3_; subst f4_; subst f5_))
                           refine hK.out _ _ ⟨(blk_cell BK414.out 0).trans rfl, (blk_cell BK414.out 1).trans rfl, (blk_cell BK414.out 2).trans rfl⟩ (fun hHeld => ?_)
                           clear hK K
                           refine norm_ (a' := ?_) ?_ ?_
                           rotate_left
                           ·show Act.put _ (some 146) _ = _
                            simp only [putW]; rfl
                           refine one_ (i := 9) (N := some 151) (bits 12 1023) rfl rfl (one_of HT_.out (by kernel_rfl)) (by decide) (fun K hK => ?_)
                           refine goes_ Try.func14 (by kernel_rfl) rfl #[.agg #[.slice A0_0 l0_0.length c0_0, .slice A0_1 l0_1.length c0_1, .slice A0_2 l0_2.length c0_2], .slice Ao139 y427.length co139, .int .i64 x133_4, .int .i64 x139_5] (by rfl) rfl rfl byL ?_
                           with_reducible refine (turns_Allowed.calls _ _ l0_0 _ _ l0_1 _ _ l0_2 _ _ y427 x133_4 x139_5 true _ ?side1 ?side2 ?side3 ?side4 ?side5 ?side6 ?side7 ?side8 A118.out).mono ?_
                           (case side1 => exact byC (Kd.C_below HR0_0.out HB.out))
                           (case side2 => exact HC0_0.out)
                           (case side3 => exact byC (Kd.C_below HR0_1.out HB.out))
                           (case side4 => exact HC0_1.out)
                           (case side5 => exact byC (Kd.C_below HR0_2.out HB.out))
                           (case side6 => exact HC0_2.out)
                           (case side7 => repeat (first | exact (Kd.R_reads' HO_13.out).2.2 | (with_reducible refine Kd.C_alloc ?_ _) | (with_reducible refine Kd.C_drewN ?_ _) | (with_reducible refine Kd.C_drew ?_)))
                           (case side8 => exact (Kd.R_reads' HO_13.out).2.1)
                           rintro e w140 ⟨rfl, hb⟩
                           refine ⟨_, rfl, ?_⟩
                           have n0_ := Aside0.mk (Kd.R_below (byR HO_13.out) hb); have n1_ := Aside0.mk (blk_below (g := gb414) (o := .cells #[.slice A0_0 l0_0.length c0_0, .slice A0_1 l0_1.length c0_1, .slice A0_2 l0_2.length c0_2] 37 (0, 0)) (byK BK414.out) hb); have n2_ := Aside0.mk (blk_below (g := gb415) (o := .cells #[.int .i64 a2_0, .int .i64 a2_1, .int .i64 a2_2, .bool false] 42 (0, 0)) (byK BK415.out) hb); have n3_ := Aside0.mk (below_step (byB2 HB.out GE414.out GE415.out) hb); clear HO_13 BK414 BK415 HB; have HO_13 := n0_; have BK414 := n1_; have BK415 := n2_; have HB := n3_; clear n0_ n1_ n2_ n3_
                           (try clear hb)
                           (try clear hb2)
                           (try clear hk)
                           (try clear hi)
                           refine hK.out _ _ ⟨(blk_cell BK414.out 0).trans rfl, (blk_cell BK414.out 1).trans rfl, (blk_cell BK414.out 2).trans rfl⟩ (fun hHeld => ?_)
                           clear hK K
                           refine norm_ (a' := ?_) ?_ ?_
                           rotate_left
                           ·show Act.put _ (some 151) _ = _
                            simp only [putW]; rfl
                           refine q_ 10 22 HT_ ?_; refine q_ 11 23 HT_ ?_
                           refine done_ (done_of HT_.out (by kernel_rfl)) ?_
                           try go_wp2
                           have n0_ := Aside0.mk (Kd.R_drew HO_13.out); have n1_ := Aside0.mk (blk_drew BK414.out); have n2_ := Aside0.mk (blk_drew BK415.out); have n3_ := Aside0.mk (below_drew1 HB.out); clear HO_13 BK414 BK415 HB; have HO_13 := n0_; have BK414 := n1_; have BK415 := n2_; have HB := n3_; clear n0_ n1_ n2_ n3_
                           have p453 : 0 ≤ (x133_4 : Int) := odt
                           have q453 : x133_4 < (l0_2.length : Int) := odt
                           obtain ⟨ad453, A453_5, c453_5, e453, hx453_0, hx453_1, hx453_2, hx453_3, hx453_4, hx453_5, hx453_6, hx453_7, hl453_5, hi453_5⟩ := at_T58 HR0_2.out x133_4 p453 q453
                           have hw453_7 := hx453_7; have hw453_6 := hx453_6; have hw453_5 := hx453_5; have hw453_4 := hx453_4; have hw453_3 := hx453_3; have hw453_2 := hx453_2; have hw453_1 := hx453_1; have hw453_0 := hx453_0
                           cases e453
                           replace hx453_0 := (HB.out.cell (World.block_lt_of_cell? w _ hx453_0)).trans hx453_0
                           replace hx453_1 := (HB.out.cell (World.block_lt_of_cell? w _ hx453_1)).trans hx453_1
                           replace hx453_2 := (HB.out.cell (World.block_lt_of_cell? w _ hx453_2)).trans hx453_2
                           replace hx453_3 := (HB.out.cell (World.block_lt_of_cell? w _ hx453_3)).trans hx453_3
                           replace hx453_4 := (HB.out.cell (World.block_lt_of_cell? w _ hx453_4)).trans hx453_4
                           replace hx453_5 := (HB.out.cell (World.block_lt_of_cell? w _ hx453_5)).trans hx453_5
                           replace hx453_6 := (HB.out.cell (World.block_lt_of_cell? w _ hx453_6)).trans hx453_6
                           replace hx453_7 := (HB.out.cell (World.block_lt_of_cell? w _ hx453_7)).trans hx453_7
                           have HR453_5 := Aside0.mk hi453_5; have HC453_5 := Aside0.mk hl453_5; clear hi453_5 hl453_5; replace p453 := eq_true p453; replace q453 := eq_true q453
                           have p454 : 0 ≤ (((rd_T58 l0_2 x133_4).f1) : Int) := odt
                           have q454 : ((rd_T58 l0_2 x133_4).f1) < (l0_0.length : Int) := odt
                           obtain ⟨ad454, e454, hx454_0⟩ := Kd.at_int HR0_0.out ((rd_T58 l0_2 x133_4).f1) p454 q454
                           have hw454_0 := hx454_0
                           cases e454
                           replace hx454_0 := (HB.out.cell (World.block_lt_of_cell? w _ hx454_0)).trans hx454_0
                           replace p454 := eq_true p454; replace q454 := eq_true q454
                           refine start_ (n := 25) (S := fun w' => w'.cell? ⟨gb415, 0, none⟩ = some (.int .i64 a2_0) ∧ w'.cell? ⟨gb415, 1, none⟩ = some (.int .i64 a2_1) ∧ w'.cell? ⟨gb415, 2, none⟩ = some (.int .i64 a2_2) ∧ w'.cell? ⟨gb415, 3, none⟩ = some (.bool false) ∧ w'.cell? ⟨gb414, 0, none⟩ = some (.slice (some ad454) l0_0.length c0_0) ∧ w'.cell? ⟨gb414, 1, none⟩ = some (.slice A0_1 l0_1.length c0_1) ∧ w'.cell? ⟨gb414, 2, none⟩ = some (.slice (some ad453) l0_2.length c0_2) ∧ w'.cell? (ad453.add ((x133_4).toNat * 8)) = some (.int .i64 ((rd_T58 l0_2 x133_4).f0)) ∧ w'.cell? ⟨(ad453.add ((x133_4).toNat * 8)).block, (ad453.add ((x133_4).toNat * 8)).off + 1, none⟩ = some (.int .i64 ((rd_T58 l0_2 x133_4).f1)) ∧ w'.cell? ⟨(ad453.add ((x133_4).toNat * 8)).block, (ad453.add ((x133_4).toNat * 8)).off + 2, none⟩ = some (.int .i64 ((rd_T58 l0_2 x133_4).f2)) ∧ w'.cell? ⟨(ad453.add ((x133_4).toNat * 8)).block, (ad453.add ((x133_4).toNat * 8)).off + 3, none⟩ = some (.int .i64 ((rd_T58 l0_2 x133_4).f3)) ∧ w'.cell? ⟨(ad453.add ((x133_4).toNat * 8)).block, (ad453.add ((x133_4).toNat * 8)).off + 4, none⟩ = some (.int .i64 ((rd_T58 l0_2 x133_4).f4)) ∧ w'.cell? ⟨(ad453.add ((x133_4).toNat * 8)).block, (ad453.add ((x133_4).toNat * 8)).off + 5, none⟩ = some (.slice A453_5 ((rd_T58 l0_2 x133_4).f5.f0).length c453_5) ∧ w'.cell? ⟨(ad453.add ((x133_4).toNat * 8)).block, (ad453.add ((x133_4).toNat * 8)).off + 6, none⟩ = some (.int .i64 ((rd_T58 l0_2 x133_4).f5.f1)) ∧ w'.cell? ⟨(ad453.add ((x133_4).toNat * 8)).block, (ad453.add ((x133_4).toNat * 8)).off + 7, none⟩ = some (.int .i64 ((rd_T58 l0_2 x133_4).f5.f2)) ∧ w'.cell? (ad454.add (((rd_T58 l0_2 x133_4).f1)).toNat) = some (.int .i64 (rd l0_0 ((rd_T58 l0_2 x133_4).f1)))) (ds := []) (bits 25 0) (by kernel_rfl) rfl rfl ⟨(blk_cell BK415.out 0).trans rfl, (blk_cell BK415.out 1).trans rfl, (blk_cell BK415.out 2).trans rfl, (blk_cell BK415.out 3).trans rfl, (blk_cell BK414.out 0).trans rfl, (blk_cell BK414.out 1).trans rfl, (blk_cell BK414.out 2).trans rfl, ((HB.out.cell (World.block_lt_of_cell? w _ hw453_0)).trans hw453_0), ((HB.out.cell (World.block_lt_of_cell? w _ hw453_1)).trans hw453_1), ((HB.out.cell (World.block_lt_of_cell? w _ hw453_2)).trans hw453_2), ((HB.out.cell (World.block_lt_of_cell? w _ hw453_3)).trans hw453_3), ((HB.out.cell (World.block_lt_of_cell? w _ hw453_4)).trans hw453_4), ((HB.out.cell (World.block_lt_of_cell? w _ hw453_5)).trans hw453_5), ((HB.out.cell (World.block_lt_of_cell? w _ hw453_6)).trans hw453_6), ((HB.out.cell (World.block_lt_of_cell? w _ hw453_7)).trans hw453_7), ((HB.out.cell (World.block_lt_of_cell? w _ hw454_0)).trans hw454_0)⟩ (fun hHeld => ?_); refine with_tabW mapmakerlaw47_TurnsFrees.tab28 mapmakerlaw47_TurnsFrees.bits28 (fun HT_ HW_ => ?_)
                           generalize w140.drew = w141 at HO_13 BK414 BK415 HB HR453_5 hx453_0 hx453_1 hx453_2 hx453_3 hx453_4 hx453_5 hx453_6 hx453_7 hx454_0 hHeld ⊢
                           refine q_ 0 152 HT_ ?_; refine q_ 1 153 HT_ ?_; refine q_ 2 154 HT_ ?_; refine q_ 3 155 HT_ ?_; refine q_ 4 156 HT_ ?_; refine q_ 5 157 HT_ ?_; refine q_ 6 158 HT_ ?_; refine q_ 8 160 HT_ ?_; refine q_ 10 162 HT_ ?_; refine q_ 12 164 HT_ ?_; refine take_ (i := 7) (N := some 159) (v := ?_) (a' := ?_) (bits 25 5631) rfl rfl (take_ofW HT_.out HW_.out (by kernel_rfl)) (fun _ _ _ h => h) (Or.inl ⟨by rfl, ?_⟩) hHeld ?_ ?_; rotate_left; (·rintro w' ⟨s0, s1, s2, s3, s4, s5, s6, s7, s8, s9, s10, s11, s12, s13, s14, s15⟩; go_simp; with_reducible rfl); rotate_left; (·simp only [putW]; rfl); refine take_ (i := 9) (N := some 161) (v := ?_) (a' := ?_) (bits 25 6143) rfl rfl (take_ofW HT_.out HW_.out (by kernel_rfl)) (fun _ _ _ h => h) (Or.inl ⟨by rfl, ?_⟩) hHeld ?_ ?_; rotate_left; (·rintro w' ⟨s0, s1, s2, s3, s4, s5, s6, s7, s8, s9, s10, s11, s12, s13, s14, s15⟩; go_simp; with_reducible rfl); rotate_left; (·simp only [putW]; rfl); refine take_ (i := 11) (N := some 163) (v := ?_) (a' := ?_) (bits 25 8191) rfl rfl (take_ofW HT_.out HW_.out (by kernel_rfl)) (fun _ _ _ h => h) (Or.inl ⟨by rfl, ?_⟩) hHeld ?_ ?_; rotate_left; (·rintro w' ⟨s0, s1, s2, s3, s4, s5, s6, s7, s8, s9, s10, s11, s12, s13, s14, s15⟩; go_simp; with_reducible rfl); rotate_left; (·simp only [putW]; rfl); refine q_ 13 165 HT_ ?_; refine q_ 14 166 HT_ ?_; refine take_ (i := 15) (N := some 167) (v := ?_) (a' := ?_) (bits 25 65535) rfl rfl (take_ofW HT_.out HW_.out (by kernel_rfl)) (fun _ _ _ h => h) (Or.inl ⟨by rfl, ?_⟩) hHeld ?_ ?_; rotate_left; (·rintro w' ⟨s0, s1, s2, s3, s4, s5, s6, s7, s8, s9, s10, s11, s12, s13, s14, s15⟩; go_simp; with_reducible rfl); rotate_left; (·simp only [putW]; rfl); refine q_ 16 168 HT_ ?_; refine take_ (i := 17) (N := some 169) (v := ?_) (a' := ?_) (bits 25 262143) rfl rfl (take_ofW HT_.out HW_.out (by kernel_rfl)) (fun _ _ _ h => h) (Or.inl ⟨by rfl, ?_⟩) hHeld ?_ ?_; rotate_left; (·rintro w' ⟨s0, s1, s2, s3, s4, s5, s6, s7, s8, s9, s10, s11, s12, s13, s14, s15⟩; go_simp; with_reducible rfl); rotate_left; (·simp only [putW]; rfl); refine q_ 18 170 HT_ ?_; refine q_ 19 171 HT_ ?_; refine q_ 20 172 HT_ ?_; refine q_ 21 173 HT_ ?_; refine q_ 22 174 HT_ ?_; refine q_ 23 175 HT_ ?_; refine q_ 24 176 HT_ ?_
                           refine done_ (done_of HT_.out (by kernel_rfl)) ?_
                           try go_wp2
                           go_roundg k5
                           case measure => have := HJ5.out; have := HJ52.out; have := HK3.out; have := HK4.out; have := HK5.out; omega
                           case rel => exact ⟨(wrap64 (x139_5 + 1)), byF, H', ⟨by have := HJ5.out; have := HJ52.out; have := HK3.out; have := HK4.out; have := HK5.out; omega⟩, ⟨by (with_reducible repeat (first | apply Kd.R_alloc | apply Kd.R_drewN | apply Kd.R_drew)); exact HO_13.out⟩, ⟨by (with_reducible repeat (first | refine blk_drewN ?_ _ | refine blk_drew ?_ | refine blk_alloc ?_ _)); exact BK414.out⟩, ⟨by (with_reducible repeat (first | refine blk_drewN ?_ _ | refine blk_drew ?_ | refine blk_alloc ?_ _)); exact BK415.out⟩, ⟨byB2 HB.out GE414.out GE415.out⟩⟩
                        ·rw [if_neg c124] at H
                         exact absurd H (by simp)
                       ·rw [if_neg c123] at H
                        exact absurd H (by simp)
                      ·rw [if_neg c122] at H
                       exact absurd H (by simp)
                     ·rw [if_neg c121] at H
                      exact absurd H (by simp)
                    ·replace c120 := Bool.eq_false_iff.mpr c120
                     subst c120
                     have H1 : (some false) = some r := by rw [if_neg (show ¬ (false = true) by decide)] at H; exact H
                     clear H; have H := H1; clear H1
                     obtain rfl := Option.some.inj H
                     try go_wp2
                     have n0_ := Aside0.mk (Kd.R_drew HO_13.out); have n1_ := Aside0.mk (blk_drew BK414.out); have n2_ := Aside0.mk (blk_drew BK415.out); have n3_ := Aside0.mk (below_drew1 HB.out); clear HO_13 BK414 BK415 HB; have HO_13 := n0_; have BK414 := n1_; have BK415 := n2_; have HB := n3_; clear n0_ n1_ n2_ n3_
                     refine start_ (n := 12) (S := fun w' => w'.cell? ⟨gb414, 0, none⟩ = some (.slice A0_0 l0_0.length c0_0) ∧ w'.cell? ⟨gb414, 1, none⟩ = some (.slice A0_1 l0_1.length c0_1) ∧ w'.cell? ⟨gb414, 2, none⟩ = some (.slice A0_2 l0_2.length c0_2)) (ds := []) (bits 12 0) (by kernel_rfl) rfl rfl ⟨(blk_cell BK414.out 0).trans rfl, (blk_cell BK414.out 1).trans rfl, (blk_cell BK414.out 2).trans rfl⟩ (fun hHeld => ?_); refine with_tabW mapmakerlaw47_TurnsFrees.tab27 mapmakerlaw47_TurnsFrees.bits27 (fun HT_ HW_ => ?_)
                     generalize wr.drew = w142 at HO_13 BK414 BK415 HB hHeld ⊢
                     refine q_ 1 143 HT_ ?_; refine q_ 2 144 HT_ ?_; refine q_ 3 145 HT_ ?_; refine q_ 6 148 HT_ ?_; refine q_ 7 149 HT_ ?_; refine q_ 8 150 HT_ ?_; refine r3_ 0 142 HT_ HW_ hHeld ?_; refine r3_ 5 147 HT_ HW_ hHeld ?_; refine one_ (i := 4) (N := some 146) (bits 12 511) rfl rfl (one_of HT_.out (by kernel_rfl)) (by decide) (fun K hK => ?_)
                     refine goes_ Try.func14 (by kernel_rfl) rfl #[.agg #[.slice A0_0 l0_0.length c0_0, .slice A0_1 l0_1.length c0_1, .slice A0_2 l0_2.length c0_2], .slice A1 l1.length c1, .int .i64 x133_4, .int .i64 x139_5] (by rfl) rfl rfl byL ?_
                     with_reducible refine (turns_Allowed.calls _ _ l0_0 _ _ l0_1 _ _ l0_2 _ _ l1 x133_4 x139_5 false _ ?side1 ?side2 ?side3 ?side4 ?side5 ?side6 ?side7 ?side8 A117.out).mono ?_
                     (case side1 => exact byC (Kd.C_below HR0_0.out HB.out))
                     (case side2 => exact HC0_0.out)
                     (case side3 => exact byC (Kd.C_below HR0_1.out HB.out))
                     (case side4 => exact HC0_1.out)
                     (case side5 => exact byC (Kd.C_below HR0_2.out HB.out))
                     (case side6 => exact HC0_2.out)
                     (case side7 => exact byC (Kd.C_below HR1.out HB.out))
                     (case side8 => exact HC1.out)
                     rintro e w143 ⟨rfl, hb⟩
                     refine ⟨_, rfl, ?_⟩
                     have n0_ := Aside0.mk (Kd.R_below (byR HO_13.out) hb); have n1_ := Aside0.mk (blk_below (g := gb414) (o := .cells #[.slice A0_0 l0_0.length c0_0, .slice A0_1 l0_1.length c0_1, .slice A0_2 l0_2.length c0_2] 37 (0, 0)) (byK BK414.out) hb); have n2_ := Aside0.mk (blk_below (g := gb415) (o := .cells #[.int .i64 a2_0, .int .i64 a2_1, .int .i64 a2_2, .bool false] 42 (0, 0)) (byK BK415.out) hb); have n3_ := Aside0.mk (below_step (byB2 HB.out GE414.out GE415.out) hb); clear HO_13 BK414 BK415 HB; have HO_13 := n0_; have BK414 := n1_; have BK415 := n2_; have HB := n3_; clear n0_ n1_ n2_ n3_
                     (try clear hb)
                     (try clear hb2)
                     (try clear hk)
                     (try clear hi)
                     obtain ⟨Ao144, co144, eo144⟩ := Kd.R_slice HO_13.out
                     (first | subst eo144 | (injection eo144 with f1_ f2_ f3_; have f4_ := f1_.symm; have f5_ := f3_.symm; clear f1_ f2_ f3_; subst f4_; subst f5_))
                     refine hK.out _ _ ⟨(blk_cell BK414.out 0).trans rfl, (blk_cell BK414.out 1).trans rfl, (blk_cell BK414.out 2).trans rfl⟩ (fun hHeld => ?_)
                     clear hK K
                     refine norm_ (a' := ?_) ?_ ?_
                     rotate_left
                     ·show Act.put _ (some 146) _ = _
                      simp only [putW]; rfl
                     refine one_ (i := 9) (N := some 151) (bits 12 1023) rfl rfl (one_of HT_.out (by kernel_rfl)) (by decide) (fun K hK => ?_)
                     refine goes_ Try.func14 (by kernel_rfl) rfl #[.agg #[.slice A0_0 l0_0.length c0_0, .slice A0_1 l0_1.length c0_1, .slice A0_2 l0_2.length c0_2], .slice Ao144 y427.length co144, .int .i64 x133_4, .int .i64 x139_5] (by rfl) rfl rfl byL ?_
                     with_reducible refine (turns_Allowed.calls _ _ l0_0 _ _ l0_1 _ _ l0_2 _ _ y427 x133_4 x139_5 true _ ?side1 ?side2 ?side3 ?side4 ?side5 ?side6 ?side7 ?side8 A118.out).mono ?_
                     (case side1 => exact byC (Kd.C_below HR0_0.out HB.out))
                     (case side2 => exact HC0_0.out)
                     (case side3 => exact byC (Kd.C_below HR0_1.out HB.out))
                     (case side4 => exact HC0_1.out)
                     (case side5 => exact byC (Kd.C_below HR0_2.out HB.out))
                     (case side6 => exact HC0_2.out)
                     (case side7 => repeat (first | exact (Kd.R_reads' HO_13.out).2.2 | (with_reducible refine Kd.C_alloc ?_ _) | (with_reducible refine Kd.C_drewN ?_ _) | (with_reducible refine Kd.C_drew ?_)))
                     (case side8 => exact (Kd.R_reads' HO_13.out).2.1)
                     rintro e w145 ⟨rfl, hb⟩
                     refine ⟨_, rfl, ?_⟩
                     have n0_ := Aside0.mk (Kd.R_below (byR HO_13.out) hb); have n1_ := Aside0.mk (blk_below (g := gb414) (o := .cells #[.slice A0_0 l0_0.length c0_0, .slice A0_1 l0_1.length c0_1, .slice A0_2 l0_2.length c0_2] 37 (0, 0)) (byK BK414.out) hb); have n2_ := Aside0.mk (blk_below (g := gb415) (o := .cells #[.int .i64 a2_0, .int .i64 a2_1, .int .i64 a2_2, .bool false] 42 (0, 0)) (byK BK415.out) hb); have n3_ := Aside0.mk (below_step (byB2 HB.out GE414.out GE415.out) hb); clear HO_13 BK414 BK415 HB; have HO_13 := n0_; have BK414 := n1_; have BK415 := n2_; have HB := n3_; clear n0_ n1_ n2_ n3_
                     (try clear hb)
                     (try clear hb2)
                     (try clear hk)
                     (try clear hi)
                     refine hK.out _ _ ⟨(blk_cell BK414.out 0).trans rfl, (blk_cell BK414.out 1).trans rfl, (blk_cell BK414.out 2).trans rfl⟩ (fun hHeld => ?_)
                     clear hK K
                     refine norm_ (a' := ?_) ?_ ?_
                     rotate_left
                     ·show Act.put _ (some 151) _ = _
                      simp only [putW]; rfl
                     refine q_ 10 22 HT_ ?_; refine q_ 11 23 HT_ ?_
                     refine done_ (done_of HT_.out (by kernel_rfl)) ?_
                     try go_wp2
                     have n0_ := Aside0.mk (Kd.R_drew HO_13.out); have n1_ := Aside0.mk (blk_drew BK414.out); have n2_ := Aside0.mk (blk_drew BK415.out); have n3_ := Aside0.mk (below_drew1 HB.out); clear HO_13 BK414 BK415 HB; have HO_13 := n0_; have BK414 := n1_; have BK415 := n2_; have HB := n3_; clear n0_ n1_ n2_ n3_
                     refine start_ (n := 25) (S := fun w' => True) (ds := []) (bits 25 0) (by kernel_rfl) rfl rfl trivial (fun hHeld => ?_); refine with_tabW mapmakerlaw47_TurnsFrees.tab28 mapmakerlaw47_TurnsFrees.bits28 (fun HT_ HW_ => ?_)
                     generalize w145.drew = w146 at HO_13 BK414 BK415 HB hHeld ⊢
                     refine q_ 0 152 HT_ ?_; refine q_ 1 153 HT_ ?_; refine q_ 2 154 HT_ ?_; refine q_ 3 155 HT_ ?_; refine q_ 4 156 HT_ ?_; refine q_ 5 157 HT_ ?_; refine qu_ 6 158 HT_ ?_; refine qu_ 7 159 HT_ ?_; refine qu_ 8 160 HT_ ?_; refine qu_ 9 161 HT_ ?_; refine qu_ 10 162 HT_ ?_; refine qu_ 11 163 HT_ ?_; refine qu_ 12 164 HT_ ?_; refine qu_ 13 165 HT_ ?_; refine qu_ 14 166 HT_ ?_; refine qu_ 15 167 HT_ ?_; refine qu_ 16 168 HT_ ?_; refine qu_ 17 169 HT_ ?_; refine qu_ 18 170 HT_ ?_; refine qu_ 19 171 HT_ ?_; refine qu_ 20 172 HT_ ?_; refine qu_ 21 173 HT_ ?_; refine qu_ 22 174 HT_ ?_; refine qu_ 23 175 HT_ ?_; refine q_ 24 176 HT_ ?_
                     refine done_ (done_of HT_.out (by kernel_rfl)) ?_
                     try go_wp2
                     go_ret
                     exact ⟨byE, byB2 HB.out GE414.out GE415.out⟩
                   ·replace c119 := Bool.eq_false_iff.mpr c119
                    subst c119
                    have H1 : (if 0 ≤ x133_4 then (if x133_4 < (l0_2.length : Int) then (if 0 ≤ ((rd_T58 l0_2 x133_4).f1) then (if ((rd_T58 l0_2 x133_4).f1) < (l0_0.length : Int) then (if a2_1 = (rd l0_0 ((rd_T58 l0_2 x133_4).f1)) then (mapmakerlaw47_TurnsFrees.l2 k5 l1 y427 x133_4 (l0_2.length : Int) x133_4 (l0_2.length : Int) (wrap64 (x139_5 + 1)) l0_0 l0_1 l0_2 a2_0 a2_1 a2_2 false) else (if (t451 != false) = true then (some false) else (mapmakerlaw47_TurnsFrees.l2 k5 l1 y427 x133_4 (l0_2.length : Int) x133_4 (l0_2.length : Int) (wrap64 (x139_5 + 1)) l0_0 l0_1 l0_2 a2_0 a2_1 a2_2 false))) else (none)) else (none)) else (none)) else (none)) = some r := by rw [if_neg (show ¬ (false = true) by decide)] at H; exact H
                    clear H; have H := H1; clear H1
                    by_cases c147 : 0 ≤ x133_4
                    ·rw [if_pos c147] at H
                     have c147b0 : decide (0 ≤ x133_4) = true := decide_eq_true c147
                     clear c147
                     by_cases c148 : x133_4 < (l0_2.length : Int)
                     ·rw [if_pos c148] at H
                      have c148b0 : decide (x133_4 < (l0_2.length : Int)) = true := decide_eq_true c148
                      clear c148
                      by_cases c149 : 0 ≤ ((rd_T58 l0_2 x133_4).f1)
                      ·rw [if_pos c149] at H
                       have c149b0 : decide (0 ≤ ((rd_T58 l0_2 x133_4).f1)) = true := decide_eq_true c149
                       clear c149
                       by_cases c150 : ((rd_T58 l0_2 x133_4).f1) < (l0_0.length : Int)
                       ·rw [if_pos c150] at H
                        have c150b0 : decide (((rd_T58 l0_2 x133_4).f1) < (l0_0.length : Int)) = true := decide_eq_true c150
                        clear c150
                        by_cases c151 : a2_1 = (rd l0_0 ((rd_T58 l0_2 x133_4).f1))
                        ·rw [if_pos c151] at H
                         have c151b0 : (a2_1 == (rd l0_0 ((rd_T58 l0_2 x133_4).f1))) = true := beq_iff_eq.mpr c151
                         have c151b1 : (a2_1 != (rd l0_0 ((rd_T58 l0_2 x133_4).f1))) = false := bne_eq_false_iff_eq.mpr c151
                         clear c151
                         have H' := Aside0.mk H
                         clear H
                         try go_wp2
                         have n0_ := Aside0.mk (Kd.R_drew HO_13.out); have n1_ := Aside0.mk (blk_drew BK414.out); have n2_ := Aside0.mk (blk_drew BK415.out); have n3_ := Aside0.mk (below_drew1 HB.out); clear HO_13 BK414 BK415 HB; have HO_13 := n0_; have BK414 := n1_; have BK415 := n2_; have HB := n3_; clear n0_ n1_ n2_ n3_
                         refine start_ (n := 12) (S := fun w' => w'.cell? ⟨gb414, 0, none⟩ = some (.slice A0_0 l0_0.length c0_0) ∧ w'.cell? ⟨gb414, 1, none⟩ = some (.slice A0_1 l0_1.length c0_1) ∧ w'.cell? ⟨gb414, 2, none⟩ = some (.slice A0_2 l0_2.length c0_2)) (ds := []) (bits 12 0) (by kernel_rfl) rfl rfl ⟨(blk_cell BK414.out 0).trans rfl, (blk_cell BK414.out 1).trans rfl, (blk_cell BK414.out 2).trans rfl⟩ (fun hHeld => ?_); refine with_tabW mapmakerlaw47_TurnsFrees.tab27 mapmakerlaw47_TurnsFrees.bits27 (fun HT_ HW_ => ?_)
                         generalize wr.drew = w152 at HO_13 BK414 BK415 HB hHeld ⊢
                         refine q_ 1 143 HT_ ?_; refine q_ 2 144 HT_ ?_; refine q_ 3 145 HT_ ?_; refine q_ 6 148 HT_ ?_; refine q_ 7 149 HT_ ?_; refine q_ 8 150 HT_ ?_; refine r3_ 0 142 HT_ HW_ hHeld ?_; refine r3_ 5 147 HT_ HW_ hHeld ?_; refine one_ (i := 4) (N := some 146) (bits 12 511) rfl rfl (one_of HT_.out (by kernel_rfl)) (by decide) (fun K hK => ?_)
                         refine goes_ Try.func14 (by kernel_rfl) rfl #[.agg #[.slice A0_0 l0_0.length c0_0, .slice A0_1 l0_1.length c0_1, .slice A0_2 l0_2.length c0_2], .slice A1 l1.length c1, .int .i64 x133_4, .int .i64 x139_5] (by rfl) rfl rfl byL ?_
                         with_reducible refine (turns_Allowed.calls _ _ l0_0 _ _ l0_1 _ _ l0_2 _ _ l1 x133_4 x139_5 t451 _ ?side1 ?side2 ?side3 ?side4 ?side5 ?side6 ?side7 ?side8 A117.out).mono ?_
                         (case side1 => exact byC (Kd.C_below HR0_0.out HB.out))
                         (case side2 => exact HC0_0.out)
                         (case side3 => exact byC (Kd.C_below HR0_1.out HB.out))
                         (case side4 => exact HC0_1.out)
                         (case side5 => exact byC (Kd.C_below HR0_2.out HB.out))
                         (case side6 => exact HC0_2.out)
                         (case side7 => exact byC (Kd.C_below HR1.out HB.out))
                         (case side8 => exact HC1.out)
                         rintro e w153 ⟨rfl, hb⟩
                         refine ⟨_, rfl, ?_⟩
                         have n0_ := Aside0.mk (Kd.R_below (byR HO_13.out) hb); have n1_ := Aside0.mk (blk_below (g := gb414) (o := .cells #[.slice A0_0 l0_0.length c0_0, .slice A0_1 l0_1.length c0_1, .slice A0_2 l0_2.length c0_2] 37 (0, 0)) (byK BK414.out) hb); have n2_ := Aside0.mk (blk_below (g := gb415) (o := .cells #[.int .i64 a2_0, .int .i64 a2_1, .int .i64 a2_2, .bool false] 42 (0, 0)) (byK BK415.out) hb); have n3_ := Aside0.mk (below_step (byB2 HB.out GE414.out GE415.out) hb); clear HO_13 BK414 BK415 HB; have HO_13 := n0_; have BK414 := n1_; have BK415 := n2_; have HB := n3_; clear n0_ n1_ n2_ n3_
                         (try clear hb)
                         (try clear hb2)
                         (try clear hk)
                         (try clear hi)
                         obtain ⟨Ao154, co154, eo154⟩ := Kd.R_slice HO_13.out
                         (first | subst eo154 | (injection eo154 with f1_ f2_ f3_; have f4_ := f1_.symm; have f5_ := f3_.symm; clear f1_ f2_ f3_; subst f4_; subst f5_))
                         refine hK.out _ _ ⟨(blk_cell BK414.out 0).trans rfl, (blk_cell BK414.out 1).trans rfl, (blk_cell BK414.out 2).trans rfl⟩ (fun hHeld => ?_)
                         clear hK K
                         refine norm_ (a' := ?_) ?_ ?_
                         rotate_left
                         ·show Act.put _ (some 146) _ = _
                          simp only [putW]; rfl
                         refine one_ (i := 9) (N := some 151) (bits 12 1023) rfl rfl (one_of HT_.out (by kernel_rfl)) (by decide) (fun K hK => ?_)
                         refine goes_ Try.func14 (by kernel_rfl) rfl #[.agg #[.slice A0_0 l0_0.length c0_0, .slice A0_1 l0_1.length c0_1, .slice A0_2 l0_2.length c0_2], .slice Ao154 y427.length co154, .int .i64 x133_4, .int .i64 x139_5] (by rfl) rfl rfl byL ?_
                         with_reducible refine (turns_Allowed.calls _ _ l0_0 _ _ l0_1 _ _ l0_2 _ _ y427 x133_4 x139_5 false _ ?side1 ?side2 ?side3 ?side4 ?side5 ?side6 ?side7 ?side8 A118.out).mono ?_
                         (case side1 => exact byC (Kd.C_below HR0_0.out HB.out))
                         (case side2 => exact HC0_0.out)
                         (case side3 => exact byC (Kd.C_below HR0_1.out HB.out))
                         (case side4 => exact HC0_1.out)
                         (case side5 => exact byC (Kd.C_below HR0_2.out HB.out))
                         (case side6 => exact HC0_2.out)
                         (case side7 => repeat (first | exact (Kd.R_reads' HO_13.out).2.2 | (with_reducible refine Kd.C_alloc ?_ _) | (with_reducible refine Kd.C_drewN ?_ _) | (with_reducible refine Kd.C_drew ?_)))
                         (case side8 => exact (Kd.R_reads' HO_13.out).2.1)
                         rintro e w155 ⟨rfl, hb⟩
                         refine ⟨_, rfl, ?_⟩
                         have n0_ := Aside0.mk (Kd.R_below (byR HO_13.out) hb); have n1_ := Aside0.mk (blk_below (g := gb414) (o := .cells #[.slice A0_0 l0_0.length c0_0, .slice A0_1 l0_1.length c0_1, .slice A0_2 l0_2.length c0_2] 37 (0, 0)) (byK BK414.out) hb); have n2_ := Aside0.mk (blk_below (g := gb415) (o := .cells #[.int .i64 a2_0, .int .i64 a2_1, .int .i64 a2_2, .bool false] 42 (0, 0)) (byK BK415.out) hb); have n3_ := Aside0.mk (below_step (byB2 HB.out GE414.out GE415.out) hb); clear HO_13 BK414 BK415 HB; have HO_13 := n0_; have BK414 := n1_; have BK415 := n2_; have HB := n3_; clear n0_ n1_ n2_ n3_
                         (try clear hb)
                         (try clear hb2)
                         (try clear hk)
                         (try clear hi)
                         refine hK.out _ _ ⟨(blk_cell BK414.out 0).trans rfl, (blk_cell BK414.out 1).trans rfl, (blk_cell BK414.out 2).trans rfl⟩ (fun hHeld => ?_)
                         clear hK K
                         refine norm_ (a' := ?_) ?_ ?_
                         rotate_left
                         ·show Act.put _ (some 151) _ = _
                          simp only [putW]; rfl
                         refine q_ 10 22 HT_ ?_; refine q_ 11 23 HT_ ?_
                         refine done_ (done_of HT_.out (by kernel_rfl)) ?_
                         try go_wp2
                         have n0_ := Aside0.mk (Kd.R_drew HO_13.out); have n1_ := Aside0.mk (blk_drew BK414.out); have n2_ := Aside0.mk (blk_drew BK415.out); have n3_ := Aside0.mk (below_drew1 HB.out); clear HO_13 BK414 BK415 HB; have HO_13 := n0_; have BK414 := n1_; have BK415 := n2_; have HB := n3_; clear n0_ n1_ n2_ n3_
                         have p455 : 0 ≤ (x133_4 : Int) := odt
                         have q455 : x133_4 < (l0_2.length : Int) := odt
                         obtain ⟨ad455, A455_5, c455_5, e455, hx455_0, hx455_1, hx455_2, hx455_3, hx455_4, hx455_5, hx455_6, hx455_7, hl455_5, hi455_5⟩ := at_T58 HR0_2.out x133_4 p455 q455
                         have hw455_7 := hx455_7; have hw455_6 := hx455_6; have hw455_5 := hx455_5; have hw455_4 := hx455_4; have hw455_3 := hx455_3; have hw455_2 := hx455_2; have hw455_1 := hx455_1; have hw455_0 := hx455_0
                         cases e455
                         replace hx455_0 := (HB.out.cell (World.block_lt_of_cell? w _ hx455_0)).trans hx455_0
                         replace hx455_1 := (HB.out.cell (World.block_lt_of_cell? w _ hx455_1)).trans hx455_1
                         replace hx455_2 := (HB.out.cell (World.block_lt_of_cell? w _ hx455_2)).trans hx455_2
                         replace hx455_3 := (HB.out.cell (World.block_lt_of_cell? w _ hx455_3)).trans hx455_3
                         replace hx455_4 := (HB.out.cell (World.block_lt_of_cell? w _ hx455_4)).trans hx455_4
                         replace hx455_5 := (HB.out.cell (World.block_lt_of_cell? w _ hx455_5)).trans hx455_5
                         replace hx455_6 := (HB.out.cell (World.block_lt_of_cell? w _ hx455_6)).trans hx455_6
                         replace hx455_7 := (HB.out.cell (World.block_lt_of_cell? w _ hx455_7)).trans hx455_7
                         have HR455_5 := Aside0.mk hi455_5; have HC455_5 := Aside0.mk hl455_5; clear hi455_5 hl455_5; replace p455 := eq_true p455; replace q455 := eq_true q455
                         have p456 : 0 ≤ (((rd_T58 l0_2 x133_4).f1) : Int) := odt
                         have q456 : ((rd_T58 l0_2 x133_4).f1) < (l0_0.length : Int) := odt
                         obtain ⟨ad456, e456, hx456_0⟩ := Kd.at_int HR0_0.out ((rd_T58 l0_2 x133_4).f1) p456 q456
                         have hw456_0 := hx456_0
                         cases e456
                         replace hx456_0 := (HB.out.cell (World.block_lt_of_cell? w _ hx456_0)).trans hx456_0
                         replace p456 := eq_true p456; replace q456 := eq_true q456
                         refine start_ (n := 25) (S := fun w' => w'.cell? ⟨gb415, 0, none⟩ = some (.int .i64 a2_0) ∧ w'.cell? ⟨gb415, 1, none⟩ = some (.int .i64 a2_1) ∧ w'.cell? ⟨gb415, 2, none⟩ = some (.int .i64 a2_2) ∧ w'.cell? ⟨gb415, 3, none⟩ = some (.bool false) ∧ w'.cell? ⟨gb414, 0, none⟩ = some (.slice (some ad456) l0_0.length c0_0) ∧ w'.cell? ⟨gb414, 1, none⟩ = some (.slice A0_1 l0_1.length c0_1) ∧ w'.cell? ⟨gb414, 2, none⟩ = some (.slice (some ad455) l0_2.length c0_2) ∧ w'.cell? (ad455.add ((x133_4).toNat * 8)) = some (.int .i64 ((rd_T58 l0_2 x133_4).f0)) ∧ w'.cell? ⟨(ad455.add ((x133_4).toNat * 8)).block, (ad455.add ((x133_4).toNat * 8)).off + 1, none⟩ = some (.int .i64 ((rd_T58 l0_2 x133_4).f1)) ∧ w'.cell? ⟨(ad455.add ((x133_4).toNat * 8)).block, (ad455.add ((x133_4).toNat * 8)).off + 2, none⟩ = some (.int .i64 ((rd_T58 l0_2 x133_4).f2)) ∧ w'.cell? ⟨(ad455.add ((x133_4).toNat * 8)).block, (ad455.add ((x133_4).toNat * 8)).off + 3, none⟩ = some (.int .i64 ((rd_T58 l0_2 x133_4).f3)) ∧ w'.cell? ⟨(ad455.add ((x133_4).toNat * 8)).block, (ad455.add ((x133_4).toNat * 8)).off + 4, none⟩ = some (.int .i64 ((rd_T58 l0_2 x133_4).f4)) ∧ w'.cell? ⟨(ad455.add ((x133_4).toNat * 8)).block, (ad455.add ((x133_4).toNat * 8)).off + 5, none⟩ = some (.slice A455_5 ((rd_T58 l0_2 x133_4).f5.f0).length c455_5) ∧ w'.cell? ⟨(ad455.add ((x133_4).toNat * 8)).block, (ad455.add ((x133_4).toNat * 8)).off + 6, none⟩ = some (.int .i64 ((rd_T58 l0_2 x133_4).f5.f1)) ∧ w'.cell? ⟨(ad455.add ((x133_4).toNat * 8)).block, (ad455.add ((x133_4).toNat * 8)).off + 7, none⟩ = some (.int .i64 ((rd_T58 l0_2 x133_4).f5.f2)) ∧ w'.cell? (ad456.add (((rd_T58 l0_2 x133_4).f1)).toNat) = some (.int .i64 (rd l0_0 ((rd_T58 l0_2 x133_4).f1)))) (ds := []) (bits 25 0) (by kernel_rfl) rfl rfl ⟨(blk_cell BK415.out 0).trans rfl, (blk_cell BK415.out 1).trans rfl, (blk_cell BK415.out 2).trans rfl, (blk_cell BK415.out 3).trans rfl, (blk_cell BK414.out 0).trans rfl, (blk_cell BK414.out 1).trans rfl, (blk_cell BK414.out 2).trans rfl, ((HB.out.cell (World.block_lt_of_cell? w _ hw455_0)).trans hw455_0), ((HB.out.cell (World.block_lt_of_cell? w _ hw455_1)).trans hw455_1), ((HB.out.cell (World.block_lt_of_cell? w _ hw455_2)).trans hw455_2), ((HB.out.cell (World.block_lt_of_cell? w _ hw455_3)).trans hw455_3), ((HB.out.cell (World.block_lt_of_cell? w _ hw455_4)).trans hw455_4), ((HB.out.cell (World.block_lt_of_cell? w _ hw455_5)).trans hw455_5), ((HB.out.cell (World.block_lt_of_cell? w _ hw455_6)).trans hw455_6), ((HB.out.cell (World.block_lt_of_cell? w _ hw455_7)).trans hw455_7), ((HB.out.cell (World.block_lt_of_cell? w _ hw456_0)).trans hw456_0)⟩ (fun hHeld => ?_); refine with_tabW mapmakerlaw47_TurnsFrees.tab28 mapmakerlaw47_TurnsFrees.bits28 (fun HT_ HW_ => ?_)
                         generalize w155.drew = w156 at HO_13 BK414 BK415 HB HR455_5 hx455_0 hx455_1 hx455_2 hx455_3 hx455_4 hx455_5 hx455_6 hx455_7 hx456_0 hHeld ⊢
                         refine q_ 0 152 HT_ ?_; refine q_ 1 153 HT_ ?_; refine qu_ 2 154 HT_ ?_; refine qu_ 3 155 HT_ ?_; refine q_ 4 156 HT_ ?_; refine q_ 5 157 HT_ ?_; refine q_ 6 158 HT_ ?_; refine q_ 8 160 HT_ ?_; refine q_ 10 162 HT_ ?_; refine q_ 12 164 HT_ ?_; refine take_ (i := 7) (N := some 159) (v := ?_) (a' := ?_) (bits 25 5631) rfl rfl (take_ofW HT_.out HW_.out (by kernel_rfl)) (fun _ _ _ h => h) (Or.inl ⟨by rfl, ?_⟩) hHeld ?_ ?_; rotate_left; (·rintro w' ⟨s0, s1, s2, s3, s4, s5, s6, s7, s8, s9, s10, s11, s12, s13, s14, s15⟩; go_simp; with_reducible rfl); rotate_left; (·simp only [putW]; rfl); refine take_ (i := 9) (N := some 161) (v := ?_) (a' := ?_) (bits 25 6143) rfl rfl (take_ofW HT_.out HW_.out (by kernel_rfl)) (fun _ _ _ h => h) (Or.inl ⟨by rfl, ?_⟩) hHeld ?_ ?_; rotate_left; (·rintro w' ⟨s0, s1, s2, s3, s4, s5, s6, s7, s8, s9, s10, s11, s12, s13, s14, s15⟩; go_simp; with_reducible rfl); rotate_left; (·simp only [putW]; rfl); refine take_ (i := 11) (N := some 163) (v := ?_) (a' := ?_) (bits 25 8191) rfl rfl (take_ofW HT_.out HW_.out (by kernel_rfl)) (fun _ _ _ h => h) (Or.inl ⟨by rfl, ?_⟩) hHeld ?_ ?_; rotate_left; (·rintro w' ⟨s0, s1, s2, s3, s4, s5, s6, s7, s8, s9, s10, s11, s12, s13, s14, s15⟩; go_simp; with_reducible rfl); rotate_left; (·simp only [putW]; rfl); refine q_ 13 165 HT_ ?_; refine q_ 14 166 HT_ ?_; refine take_ (i := 15) (N := some 167) (v := ?_) (a' := ?_) (bits 25 65535) rfl rfl (take_ofW HT_.out HW_.out (by kernel_rfl)) (fun _ _ _ h => h) (Or.inl ⟨by rfl, ?_⟩) hHeld ?_ ?_; rotate_left; (·rintro w' ⟨s0, s1, s2, s3, s4, s5, s6, s7, s8, s9, s10, s11, s12, s13, s14, s15⟩; go_simp; with_reducible rfl); rotate_left; (·simp only [putW]; rfl); refine q_ 16 168 HT_ ?_; refine take_ (i := 17) (N := some 169) (v := ?_) (a' := ?_) (bits 25 262143) rfl rfl (take_ofW HT_.out HW_.out (by kernel_rfl)) (fun _ _ _ h => h) (Or.inl ⟨by rfl, ?_⟩) hHeld ?_ ?_; rotate_left; (·rintro w' ⟨s0, s1, s2, s3, s4, s5, s6, s7, s8, s9, s10, s11, s12, s13, s14, s15⟩; go_simp; with_reducible rfl); rotate_left; (·simp only [putW]; rfl); refine q_ 18 170 HT_ ?_; refine q_ 19 171 HT_ ?_; refine qu_ 20 172 HT_ ?_; refine qu_ 21 173 HT_ ?_; refine qu_ 22 174 HT_ ?_; refine q_ 23 175 HT_ ?_; refine q_ 24 176 HT_ ?_
                         refine done_ (done_of HT_.out (by kernel_rfl)) ?_
                         try go_wp2
                         go_roundg k5
                         case measure => have := HJ5.out; have := HJ52.out; have := HK3.out; have := HK4.out; have := HK5.out; omega
                         case rel => exact ⟨(wrap64 (x139_5 + 1)), byF, H', ⟨by have := HJ5.out; have := HJ52.out; have := HK3.out; have := HK4.out; have := HK5.out; omega⟩, ⟨by (with_reducible repeat (first | apply Kd.R_alloc | apply Kd.R_drewN | apply Kd.R_drew)); exact HO_13.out⟩, ⟨by (with_reducible repeat (first | refine blk_drewN ?_ _ | refine blk_drew ?_ | refine blk_alloc ?_ _)); exact BK414.out⟩, ⟨by (with_reducible repeat (first | refine blk_drewN ?_ _ | refine blk_drew ?_ | refine blk_alloc ?_ _)); exact BK415.out⟩, ⟨byB2 HB.out GE414.out GE415.out⟩⟩
                        ·rw [if_neg c151] at H
                         have c151b0 : (a2_1 == (rd l0_0 ((rd_T58 l0_2 x133_4).f1))) = false := beq_eq_false_iff_ne.mpr c151
                         have c151b1 : (a2_1 != (rd l0_0 ((rd_T58 l0_2 x133_4).f1))) = true := bne_iff_ne.mpr c151
                         by_cases c157 : (t451 != false) = true
                         ·rw [if_pos c157] at H
                          have c157b0 : (t451 != false) = true := c157
                          (try (have c157b1 : decide (t451 = false) = false := by simpa using c157))
                          (try (have c157b2 : (t451 == false) = false := by simpa using c157))
                          (try (have c157b3 : ¬ (t451 = false) := by simpa using c157))
                          clear c157
                          obtain rfl := Option.some.inj H
                          try go_wp2
                          have n0_ := Aside0.mk (Kd.R_drew HO_13.out); have n1_ := Aside0.mk (blk_drew BK414.out); have n2_ := Aside0.mk (blk_drew BK415.out); have n3_ := Aside0.mk (below_drew1 HB.out); clear HO_13 BK414 BK415 HB; have HO_13 := n0_; have BK414 := n1_; have BK415 := n2_; have HB := n3_; clear n0_ n1_ n2_ n3_
                          refine start_ (n := 12) (S := fun w' => w'.cell? ⟨gb414, 0, none⟩ = some (.slice A0_0 l0_0.length c0_0) ∧ w'.cell? ⟨gb414, 1, none⟩ = some (.slice A0_1 l0_1.length c0_1) ∧ w'.cell? ⟨gb414, 2, none⟩ = some (.slice A0_2 l0_2.length c0_2)) (ds := []) (bits 12 0) (by kernel_rfl) rfl rfl ⟨(blk_cell BK414.out 0).trans rfl, (blk_cell BK414.out 1).trans rfl, (blk_cell BK414.out 2).trans rfl⟩ (fun hHeld => ?_); refine with_tabW mapmakerlaw47_TurnsFrees.tab27 mapmakerlaw47_TurnsFrees.bits27 (fun HT_ HW_ => ?_)
                          generalize wr.drew = w158 at HO_13 BK414 BK415 HB hHeld ⊢
                          refine q_ 1 143 HT_ ?_; refine q_ 2 144 HT_ ?_; refine q_ 3 145 HT_ ?_; refine q_ 6 148 HT_ ?_; refine q_ 7 149 HT_ ?_; refine q_ 8 150 HT_ ?_; refine r3_ 0 142 HT_ HW_ hHeld ?_; refine r3_ 5 147 HT_ HW_ hHeld ?_; refine one_ (i := 4) (N := some 146) (bits 12 511) rfl rfl (one_of HT_.out (by kernel_rfl)) (by decide) (fun K hK => ?_)
                          refine goes_ Try.func14 (by kernel_rfl) rfl #[.agg #[.slice A0_0 l0_0.length c0_0, .slice A0_1 l0_1.length c0_1, .slice A0_2 l0_2.length c0_2], .slice A1 l1.length c1, .int .i64 x133_4, .int .i64 x139_5] (by rfl) rfl rfl byL ?_
                          with_reducible refine (turns_Allowed.calls _ _ l0_0 _ _ l0_1 _ _ l0_2 _ _ l1 x133_4 x139_5 t451 _ ?side1 ?side2 ?side3 ?side4 ?side5 ?side6 ?side7 ?side8 A117.out).mono ?_
                          (case side1 => exact byC (Kd.C_below HR0_0.out HB.out))
                          (case side2 => exact HC0_0.out)
                          (case side3 => exact byC (Kd.C_below HR0_1.out HB.out))
                          (case side4 => exact HC0_1.out)
                          (case side5 => exact byC (Kd.C_below HR0_2.out HB.out))
                          (case side6 => exact HC0_2.out)
                          (case side7 => exact byC (Kd.C_below HR1.out HB.out))
                          (case side8 => exact HC1.out)
                          rintro e w159 ⟨rfl, hb⟩
                          refine ⟨_, rfl, ?_⟩
                          have n0_ := Aside0.mk (Kd.R_below (byR HO_13.out) hb); have n1_ := Aside0.mk (blk_below (g := gb414) (o := .cells #[.slice A0_0 l0_0.length c0_0, .slice A0_1 l0_1.length c0_1, .slice A0_2 l0_2.length c0_2] 37 (0, 0)) (byK BK414.out) hb); have n2_ := Aside0.mk (blk_below (g := gb415) (o := .cells #[.int .i64 a2_0, .int .i64 a2_1, .int .i64 a2_2, .bool false] 42 (0, 0)) (byK BK415.out) hb); have n3_ := Aside0.mk (below_step (byB2 HB.out GE414.out GE415.out) hb); clear HO_13 BK414 BK415 HB; have HO_13 := n0_; have BK414 := n1_; have BK415 := n2_; have HB := n3_; clear n0_ n1_ n2_ n3_
                          (try clear hb)
                          (try clear hb2)
                          (try clear hk)
                          (try clear hi)
                          obtain ⟨Ao160, co160, eo160⟩ := Kd.R_slice HO_13.out
                          (first | subst eo160 | (injection eo160 with f1_ f2_ f3_; have f4_ := f1_.symm; have f5_ := f3_.symm; clear f1_ f2_ f3_; subst f4_; subst f5_))
                          refine hK.out _ _ ⟨(blk_cell BK414.out 0).trans rfl, (blk_cell BK414.out 1).trans rfl, (blk_cell BK414.out 2).trans rfl⟩ (fun hHeld => ?_)
                          clear hK K
                          refine norm_ (a' := ?_) ?_ ?_
                          rotate_left
                          ·show Act.put _ (some 146) _ = _
                           simp only [putW]; rfl
                          refine one_ (i := 9) (N := some 151) (bits 12 1023) rfl rfl (one_of HT_.out (by kernel_rfl)) (by decide) (fun K hK => ?_)
                          refine goes_ Try.func14 (by kernel_rfl) rfl #[.agg #[.slice A0_0 l0_0.length c0_0, .slice A0_1 l0_1.length c0_1, .slice A0_2 l0_2.length c0_2], .slice Ao160 y427.length co160, .int .i64 x133_4, .int .i64 x139_5] (by rfl) rfl rfl byL ?_
                          with_reducible refine (turns_Allowed.calls _ _ l0_0 _ _ l0_1 _ _ l0_2 _ _ y427 x133_4 x139_5 false _ ?side1 ?side2 ?side3 ?side4 ?side5 ?side6 ?side7 ?side8 A118.out).mono ?_
                          (case side1 => exact byC (Kd.C_below HR0_0.out HB.out))
                          (case side2 => exact HC0_0.out)
                          (case side3 => exact byC (Kd.C_below HR0_1.out HB.out))
                          (case side4 => exact HC0_1.out)
                          (case side5 => exact byC (Kd.C_below HR0_2.out HB.out))
                          (case side6 => exact HC0_2.out)
                          (case side7 => repeat (first | exact (Kd.R_reads' HO_13.out).2.2 | (with_reducible refine Kd.C_alloc ?_ _) | (with_reducible refine Kd.C_drewN ?_ _) | (with_reducible refine Kd.C_drew ?_)))
                          (case side8 => exact (Kd.R_reads' HO_13.out).2.1)
                          rintro e w161 ⟨rfl, hb⟩
                          refine ⟨_, rfl, ?_⟩
                          have n0_ := Aside0.mk (Kd.R_below (byR HO_13.out) hb); have n1_ := Aside0.mk (blk_below (g := gb414) (o := .cells #[.slice A0_0 l0_0.length c0_0, .slice A0_1 l0_1.length c0_1, .slice A0_2 l0_2.length c0_2] 37 (0, 0)) (byK BK414.out) hb); have n2_ := Aside0.mk (blk_below (g := gb415) (o := .cells #[.int .i64 a2_0, .int .i64 a2_1, .int .i64 a2_2, .bool false] 42 (0, 0)) (byK BK415.out) hb); have n3_ := Aside0.mk (below_step (byB2 HB.out GE414.out GE415.out) hb); clear HO_13 BK414 BK415 HB; have HO_13 := n0_; have BK414 := n1_; have BK415 := n2_; have HB := n3_; clear n0_ n1_ n2_ n3_
                          (try clear hb)
                          (try clear hb2)
                          (try clear hk)
                          (try clear hi)
                          refine hK.out _ _ ⟨(blk_cell BK414.out 0).trans rfl, (blk_cell BK414.out 1).trans rfl, (blk_cell BK414.out 2).trans rfl⟩ (fun hHeld => ?_)
                          clear hK K
                          refine norm_ (a' := ?_) ?_ ?_
                          rotate_left
                          ·show Act.put _ (some 151) _ = _
                           simp only [putW]; rfl
                          refine q_ 10 22 HT_ ?_; refine q_ 11 23 HT_ ?_
                          refine done_ (done_of HT_.out (by kernel_rfl)) ?_
                          try go_wp2
                          have n0_ := Aside0.mk (Kd.R_drew HO_13.out); have n1_ := Aside0.mk (blk_drew BK414.out); have n2_ := Aside0.mk (blk_drew BK415.out); have n3_ := Aside0.mk (below_drew1 HB.out); clear HO_13 BK414 BK415 HB; have HO_13 := n0_; have BK414 := n1_; have BK415 := n2_; have HB := n3_; clear n0_ n1_ n2_ n3_
                          have p455 : 0 ≤ (x133_4 : Int) := odt
                          have q455 : x133_4 < (l0_2.length : Int) := odt
                          obtain ⟨ad455, A455_5, c455_5, e455, hx455_0, hx455_1, hx455_2, hx455_3, hx455_4, hx455_5, hx455_6, hx455_7, hl455_5, hi455_5⟩ := at_T58 HR0_2.out x133_4 p455 q455
                          have hw455_7 := hx455_7; have hw455_6 := hx455_6; have hw455_5 := hx455_5; have hw455_4 := hx455_4; have hw455_3 := hx455_3; have hw455_2 := hx455_2; have hw455_1 := hx455_1; have hw455_0 := hx455_0
                          cases e455
                          replace hx455_0 := (HB.out.cell (World.block_lt_of_cell? w _ hx455_0)).trans hx455_0
                          replace hx455_1 := (HB.out.cell (World.block_lt_of_cell? w _ hx455_1)).trans hx455_1
                          replace hx455_2 := (HB.out.cell (World.block_lt_of_cell? w _ hx455_2)).trans hx455_2
                          replace hx455_3 := (HB.out.cell (World.block_lt_of_cell? w _ hx455_3)).trans hx455_3
                          replace hx455_4 := (HB.out.cell (World.block_lt_of_cell? w _ hx455_4)).trans hx455_4
                          replace hx455_5 := (HB.out.cell (World.block_lt_of_cell? w _ hx455_5)).trans hx455_5
                          replace hx455_6 := (HB.out.cell (World.block_lt_of_cell? w _ hx455_6)).trans hx455_6
                          replace hx455_7 := (HB.out.cell (World.block_lt_of_cell? w _ hx455_7)).trans hx455_7
                          have HR455_5 := Aside0.mk hi455_5; have HC455_5 := Aside0.mk hl455_5; clear hi455_5 hl455_5; replace p455 := eq_true p455; replace q455 := eq_true q455
                          have p456 : 0 ≤ (((rd_T58 l0_2 x133_4).f1) : Int) := odt
                          have q456 : ((rd_T58 l0_2 x133_4).f1) < (l0_0.length : Int) := odt
                          obtain ⟨ad456, e456, hx456_0⟩ := Kd.at_int HR0_0.out ((rd_T58 l0_2 x133_4).f1) p456 q456
                          have hw456_0 := hx456_0
                          cases e456
                          replace hx456_0 := (HB.out.cell (World.block_lt_of_cell? w _ hx456_0)).trans hx456_0
                          replace p456 := eq_true p456; replace q456 := eq_true q456
                          refine start_ (n := 25) (S := fun w' => w'.cell? ⟨gb415, 0, none⟩ = some (.int .i64 a2_0) ∧ w'.cell? ⟨gb415, 1, none⟩ = some (.int .i64 a2_1) ∧ w'.cell? ⟨gb415, 2, none⟩ = some (.int .i64 a2_2) ∧ w'.cell? ⟨gb415, 3, none⟩ = some (.bool false) ∧ w'.cell? ⟨gb414, 0, none⟩ = some (.slice (some ad456) l0_0.length c0_0) ∧ w'.cell? ⟨gb414, 1, none⟩ = some (.slice A0_1 l0_1.length c0_1) ∧ w'.cell? ⟨gb414, 2, none⟩ = some (.slice (some ad455) l0_2.length c0_2) ∧ w'.cell? (ad455.add ((x133_4).toNat * 8)) = some (.int .i64 ((rd_T58 l0_2 x133_4).f0)) ∧ w'.cell? ⟨(ad455.add ((x133_4).toNat * 8)).block, (ad455.add ((x133_4).toNat * 8)).off + 1, none⟩ = some (.int .i64 ((rd_T58 l0_2 x133_4).f1)) ∧ w'.cell? ⟨(ad455.add ((x133_4).toNat * 8)).block, (ad455.add ((x133_4).toNat * 8)).off + 2, none⟩ = some (.int .i64 ((rd_T58 l0_2 x133_4).f2)) ∧ w'.cell? ⟨(ad455.add ((x133_4).toNat * 8)).block, (ad455.add ((x133_4).toNat * 8)).off + 3, none⟩ = some (.int .i64 ((rd_T58 l0_2 x133_4).f3)) ∧ w'.cell? ⟨(ad455.add ((x133_4).toNat * 8)).block, (ad455.add ((x133_4).toNat * 8)).off + 4, none⟩ = some (.int .i64 ((rd_T58 l0_2 x133_4).f4)) ∧ w'.cell? ⟨(ad455.add ((x133_4).toNat * 8)).block, (ad455.add ((x133_4).toNat * 8)).off + 5, none⟩ = some (.slice A455_5 ((rd_T58 l0_2 x133_4).f5.f0).length c455_5) ∧ w'.cell? ⟨(ad455.add ((x133_4).toNat * 8)).block, (ad455.add ((x133_4).toNat * 8)).off + 6, none⟩ = some (.int .i64 ((rd_T58 l0_2 x133_4).f5.f1)) ∧ w'.cell? ⟨(ad455.add ((x133_4).toNat * 8)).block, (ad455.add ((x133_4).toNat * 8)).off + 7, none⟩ = some (.int .i64 ((rd_T58 l0_2 x133_4).f5.f2)) ∧ w'.cell? (ad456.add (((rd_T58 l0_2 x133_4).f1)).toNat) = some (.int .i64 (rd l0_0 ((rd_T58 l0_2 x133_4).f1)))) (ds := []) (bits 25 0) (by kernel_rfl) rfl rfl ⟨(blk_cell BK415.out 0).trans rfl, (blk_cell BK415.out 1).trans rfl, (blk_cell BK415.out 2).trans rfl, (blk_cell BK415.out 3).trans rfl, (blk_cell BK414.out 0).trans rfl, (blk_cell BK414.out 1).trans rfl, (blk_cell BK414.out 2).trans rfl, ((HB.out.cell (World.block_lt_of_cell? w _ hw455_0)).trans hw455_0), ((HB.out.cell (World.block_lt_of_cell? w _ hw455_1)).trans hw455_1), ((HB.out.cell (World.block_lt_of_cell? w _ hw455_2)).trans hw455_2), ((HB.out.cell (World.block_lt_of_cell? w _ hw455_3)).trans hw455_3), ((HB.out.cell (World.block_lt_of_cell? w _ hw455_4)).trans hw455_4), ((HB.out.cell (World.block_lt_of_cell? w _ hw455_5)).trans hw455_5), ((HB.out.cell (World.block_lt_of_cell? w _ hw455_6)).trans hw455_6), ((HB.out.cell (World.block_lt_of_cell? w _ hw455_7)).trans hw455_7), ((HB.out.cell (World.block_lt_of_cell? w _ hw456_0)).trans hw456_0)⟩ (fun hHeld => ?_); refine with_tabW mapmakerlaw47_TurnsFrees.tab28 mapmakerlaw47_TurnsFrees.bits28 (fun HT_ HW_ => ?_)
                          generalize w161.drew = w162 at HO_13 BK414 BK415 HB HR455_5 hx455_0 hx455_1 hx455_2 hx455_3 hx455_4 hx455_5 hx455_6 hx455_7 hx456_0 hHeld ⊢
                          refine q_ 0 152 HT_ ?_; refine q_ 1 153 HT_ ?_; refine qu_ 2 154 HT_ ?_; refine qu_ 3 155 HT_ ?_; refine q_ 4 156 HT_ ?_; refine q_ 5 157 HT_ ?_; refine q_ 6 158 HT_ ?_; refine q_ 8 160 HT_ ?_; refine q_ 10 162 HT_ ?_; refine q_ 12 164 HT_ ?_; refine take_ (i := 7) (N := some 159) (v := ?_) (a' := ?_) (bits 25 5631) rfl rfl (take_ofW HT_.out HW_.out (by kernel_rfl)) (fun _ _ _ h => h) (Or.inl ⟨by rfl, ?_⟩) hHeld ?_ ?_; rotate_left; (·rintro w' ⟨s0, s1, s2, s3, s4, s5, s6, s7, s8, s9, s10, s11, s12, s13, s14, s15⟩; go_simp; with_reducible rfl); rotate_left; (·simp only [putW]; rfl); refine take_ (i := 9) (N := some 161) (v := ?_) (a' := ?_) (bits 25 6143) rfl rfl (take_ofW HT_.out HW_.out (by kernel_rfl)) (fun _ _ _ h => h) (Or.inl ⟨by rfl, ?_⟩) hHeld ?_ ?_; rotate_left; (·rintro w' ⟨s0, s1, s2, s3, s4, s5, s6, s7, s8, s9, s10, s11, s12, s13, s14, s15⟩; go_simp; with_reducible rfl); rotate_left; (·simp only [putW]; rfl); refine take_ (i := 11) (N := some 163) (v := ?_) (a' := ?_) (bits 25 8191) rfl rfl (take_ofW HT_.out HW_.out (by kernel_rfl)) (fun _ _ _ h => h) (Or.inl ⟨by rfl, ?_⟩) hHeld ?_ ?_; rotate_left; (·rintro w' ⟨s0, s1, s2, s3, s4, s5, s6, s7, s8, s9, s10, s11, s12, s13, s14, s15⟩; go_simp; with_reducible rfl); rotate_left; (·simp only [putW]; rfl); refine q_ 13 165 HT_ ?_; refine q_ 14 166 HT_ ?_; refine take_ (i := 15) (N := some 167) (v := ?_) (a' := ?_) (bits 25 65535) rfl rfl (take_ofW HT_.out HW_.out (by kernel_rfl)) (fun _ _ _ h => h) (Or.inl ⟨by rfl, ?_⟩) hHeld ?_ ?_; rotate_left; (·rintro w' ⟨s0, s1, s2, s3, s4, s5, s6, s7, s8, s9, s10, s11, s12, s13, s14, s15⟩; go_simp; with_reducible rfl); rotate_left; (·simp only [putW]; rfl); refine q_ 16 168 HT_ ?_; refine take_ (i := 17) (N := some 169) (v := ?_) (a' := ?_) (bits 25 262143) rfl rfl (take_ofW HT_.out HW_.out (by kernel_rfl)) (fun _ _ _ h => h) (Or.inl ⟨by rfl, ?_⟩) hHeld ?_ ?_; rotate_left; (·rintro w' ⟨s0, s1, s2, s3, s4, s5, s6, s7, s8, s9, s10, s11, s12, s13, s14, s15⟩; go_simp; with_reducible rfl); rotate_left; (·simp only [putW]; rfl); refine q_ 18 170 HT_ ?_; refine q_ 19 171 HT_ ?_; refine q_ 20 172 HT_ ?_; refine q_ 21 173 HT_ ?_; refine q_ 22 174 HT_ ?_; refine q_ 23 175 HT_ ?_; refine q_ 24 176 HT_ ?_
                          refine done_ (done_of HT_.out (by kernel_rfl)) ?_
                          try go_wp2
                          go_ret
                          exact ⟨byE, byB2 HB.out GE414.out GE415.out⟩
                         ·rw [if_neg c157] at H
                          have c157b0 : (t451 != false) = false := by simpa using c157
                          (try (have c157b1 : decide (t451 = false) = true := by simpa using c157))
                          (try (have c157b2 : (t451 == false) = true := by simpa using c157))
                          clear c157
                          have H' := Aside0.mk H
                          clear H
                          try go_wp2
                          have n0_ := Aside0.mk (Kd.R_drew HO_13.out); have n1_ := Aside0.mk (blk_drew BK414.out); have n2_ := Aside0.mk (blk_drew BK415.out); have n3_ := Aside0.mk (below_drew1 HB.out); clear HO_13 BK414 BK415 HB; have HO_13 := n0_; have BK414 := n1_; have BK415 := n2_; have HB := n3_; clear n0_ n1_ n2_ n3_
                          refine start_ (n := 12) (S := fun w' => w'.cell? ⟨gb414, 0, none⟩ = some (.slice A0_0 l0_0.length c0_0) ∧ w'.cell? ⟨gb414, 1, none⟩ = some (.slice A0_1 l0_1.length c0_1) ∧ w'.cell? ⟨gb414, 2, none⟩ = some (.slice A0_2 l0_2.length c0_2)) (ds := []) (bits 12 0) (by kernel_rfl) rfl rfl ⟨(blk_cell BK414.out 0).trans rfl, (blk_cell BK414.out 1).trans rfl, (blk_cell BK414.out 2).trans rfl⟩ (fun hHeld => ?_); refine with_tabW mapmakerlaw47_TurnsFrees.tab27 mapmakerlaw47_TurnsFrees.bits27 (fun HT_ HW_ => ?_)
                          generalize wr.drew = w163 at HO_13 BK414 BK415 HB hHeld ⊢
                          refine q_ 1 143 HT_ ?_; refine q_ 2 144 HT_ ?_; refine q_ 3 145 HT_ ?_; refine q_ 6 148 HT_ ?_; refine q_ 7 149 HT_ ?_; refine q_ 8 150 HT_ ?_; refine r3_ 0 142 HT_ HW_ hHeld ?_; refine r3_ 5 147 HT_ HW_ hHeld ?_; refine one_ (i := 4) (N := some 146) (bits 12 511) rfl rfl (one_of HT_.out (by kernel_rfl)) (by decide) (fun K hK => ?_)
                          refine goes_ Try.func14 (by kernel_rfl) rfl #[.agg #[.slice A0_0 l0_0.length c0_0, .slice A0_1 l0_1.length c0_1, .slice A0_2 l0_2.length c0_2], .slice A1 l1.length c1, .int .i64 x133_4, .int .i64 x139_5] (by rfl) rfl rfl byL ?_
                          with_reducible refine (turns_Allowed.calls _ _ l0_0 _ _ l0_1 _ _ l0_2 _ _ l1 x133_4 x139_5 t451 _ ?side1 ?side2 ?side3 ?side4 ?side5 ?side6 ?side7 ?side8 A117.out).mono ?_
                          (case side1 => exact byC (Kd.C_below HR0_0.out HB.out))
                          (case side2 => exact HC0_0.out)
                          (case side3 => exact byC (Kd.C_below HR0_1.out HB.out))
                          (case side4 => exact HC0_1.out)
                          (case side5 => exact byC (Kd.C_below HR0_2.out HB.out))
                          (case side6 => exact HC0_2.out)
                          (case side7 => exact byC (Kd.C_below HR1.out HB.out))
                          (case side8 => exact HC1.out)
                          rintro e w164 ⟨rfl, hb⟩
                          refine ⟨_, rfl, ?_⟩
                          have n0_ := Aside0.mk (Kd.R_below (byR HO_13.out) hb); have n1_ := Aside0.mk (blk_below (g := gb414) (o := .cells #[.slice A0_0 l0_0.length c0_0, .slice A0_1 l0_1.length c0_1, .slice A0_2 l0_2.length c0_2] 37 (0, 0)) (byK BK414.out) hb); have n2_ := Aside0.mk (blk_below (g := gb415) (o := .cells #[.int .i64 a2_0, .int .i64 a2_1, .int .i64 a2_2, .bool false] 42 (0, 0)) (byK BK415.out) hb); have n3_ := Aside0.mk (below_step (byB2 HB.out GE414.out GE415.out) hb); clear HO_13 BK414 BK415 HB; have HO_13 := n0_; have BK414 := n1_; have BK415 := n2_; have HB := n3_; clear n0_ n1_ n2_ n3_
                          (try clear hb)
                          (try clear hb2)
                          (try clear hk)
                          (try clear hi)
                          obtain ⟨Ao165, co165, eo165⟩ := Kd.R_slice HO_13.out
                          (first | subst eo165 | (injection eo165 with f1_ f2_ f3_; have f4_ := f1_.symm; have f5_ := f3_.symm; clear f1_ f2_ f3_; subst f4_; subst f5_))
                          refine hK.out _ _ ⟨(blk_cell BK414.out 0).trans rfl, (blk_cell BK414.out 1).trans rfl, (blk_cell BK414.out 2).trans rfl⟩ (fun hHeld => ?_)
                          clear hK K
                          refine norm_ (a' := ?_) ?_ ?_
                          rotate_left
                          ·show Act.put _ (some 146) _ = _
                           simp only [putW]; rfl
                          refine one_ (i := 9) (N := some 151) (bits 12 1023) rfl rfl (one_of HT_.out (by kernel_rfl)) (by decide) (fun K hK => ?_)
                          refine goes_ Try.func14 (by kernel_rfl) rfl #[.agg #[.slice A0_0 l0_0.length c0_0, .slice A0_1 l0_1.length c0_1, .slice A0_2 l0_2.length c0_2], .slice Ao165 y427.length co165, .int .i64 x133_4, .int .i64 x139_5] (by rfl) rfl rfl byL ?_
                          with_reducible refine (turns_Allowed.calls _ _ l0_0 _ _ l0_1 _ _ l0_2 _ _ y427 x133_4 x139_5 false _ ?side1 ?side2 ?side3 ?side4 ?side5 ?side6 ?side7 ?side8 A118.out).mono ?_
                          (case side1 => exact byC (Kd.C_below HR0_0.out HB.out))
                          (case side2 => exact HC0_0.out)
                          (case side3 => exact byC (Kd.C_below HR0_1.out HB.out))
                          (case side4 => exact HC0_1.out)
                          (case side5 => exact byC (Kd.C_below HR0_2.out HB.out))
                          (case side6 => exact HC0_2.out)
                          (case side7 => repeat (first | exact (Kd.R_reads' HO_13.out).2.2 | (with_reducible refine Kd.C_alloc ?_ _) | (with_reducible refine Kd.C_drewN ?_ _) | (with_reducible refine Kd.C_drew ?_)))
                          (case side8 => exact (Kd.R_reads' HO_13.out).2.1)
                          rintro e w166 ⟨rfl, hb⟩
                          refine ⟨_, rfl, ?_⟩
                          have n0_ := Aside0.mk (Kd.R_below (byR HO_13.out) hb); have n1_ := Aside0.mk (blk_below (g := gb414) (o := .cells #[.slice A0_0 l0_0.length c0_0, .slice A0_1 l0_1.length c0_1, .slice A0_2 l0_2.length c0_2] 37 (0, 0)) (byK BK414.out) hb); have n2_ := Aside0.mk (blk_below (g := gb415) (o := .cells #[.int .i64 a2_0, .int .i64 a2_1, .int .i64 a2_2, .bool false] 42 (0, 0)) (byK BK415.out) hb); have n3_ := Aside0.mk (below_step (byB2 HB.out GE414.out GE415.out) hb); clear HO_13 BK414 BK415 HB; have HO_13 := n0_; have BK414 := n1_; have BK415 := n2_; have HB := n3_; clear n0_ n1_ n2_ n3_
                          (try clear hb)
                          (try clear hb2)
                          (try clear hk)
                          (try clear hi)
                          refine hK.out _ _ ⟨(blk_cell BK414.out 0).trans rfl, (blk_cell BK414.out 1).trans rfl, (blk_cell BK414.out 2).trans rfl⟩ (fun hHeld => ?_)
                          clear hK K
                          refine norm_ (a' := ?_) ?_ ?_
                          rotate_left
                          ·show Act.put _ (some 151) _ = _
                           simp only [putW]; rfl
                          refine q_ 10 22 HT_ ?_; refine q_ 11 23 HT_ ?_
                          refine done_ (done_of HT_.out (by kernel_rfl)) ?_
                          try go_wp2
                          have n0_ := Aside0.mk (Kd.R_drew HO_13.out); have n1_ := Aside0.mk (blk_drew BK414.out); have n2_ := Aside0.mk (blk_drew BK415.out); have n3_ := Aside0.mk (below_drew1 HB.out); clear HO_13 BK414 BK415 HB; have HO_13 := n0_; have BK414 := n1_; have BK415 := n2_; have HB := n3_; clear n0_ n1_ n2_ n3_
                          have p455 : 0 ≤ (x133_4 : Int) := odt
                          have q455 : x133_4 < (l0_2.length : Int) := odt
                          obtain ⟨ad455, A455_5, c455_5, e455, hx455_0, hx455_1, hx455_2, hx455_3, hx455_4, hx455_5, hx455_6, hx455_7, hl455_5, hi455_5⟩ := at_T58 HR0_2.out x133_4 p455 q455
                          have hw455_7 := hx455_7; have hw455_6 := hx455_6; have hw455_5 := hx455_5; have hw455_4 := hx455_4; have hw455_3 := hx455_3; have hw455_2 := hx455_2; have hw455_1 := hx455_1; have hw455_0 := hx455_0
                          cases e455
                          replace hx455_0 := (HB.out.cell (World.block_lt_of_cell? w _ hx455_0)).trans hx455_0
                          replace hx455_1 := (HB.out.cell (World.block_lt_of_cell? w _ hx455_1)).trans hx455_1
                          replace hx455_2 := (HB.out.cell (World.block_lt_of_cell? w _ hx455_2)).trans hx455_2
                          replace hx455_3 := (HB.out.cell (World.block_lt_of_cell? w _ hx455_3)).trans hx455_3
                          replace hx455_4 := (HB.out.cell (World.block_lt_of_cell? w _ hx455_4)).trans hx455_4
                          replace hx455_5 := (HB.out.cell (World.block_lt_of_cell? w _ hx455_5)).trans hx455_5
                          replace hx455_6 := (HB.out.cell (World.block_lt_of_cell? w _ hx455_6)).trans hx455_6
                          replace hx455_7 := (HB.out.cell (World.block_lt_of_cell? w _ hx455_7)).trans hx455_7
                          have HR455_5 := Aside0.mk hi455_5; have HC455_5 := Aside0.mk hl455_5; clear hi455_5 hl455_5; replace p455 := eq_true p455; replace q455 := eq_true q455
                          have p456 : 0 ≤ (((rd_T58 l0_2 x133_4).f1) : Int) := odt
                          have q456 : ((rd_T58 l0_2 x133_4).f1) < (l0_0.length : Int) := odt
                          obtain ⟨ad456, e456, hx456_0⟩ := Kd.at_int HR0_0.out ((rd_T58 l0_2 x133_4).f1) p456 q456
                          have hw456_0 := hx456_0
                          cases e456
                          replace hx456_0 := (HB.out.cell (World.block_lt_of_cell? w _ hx456_0)).trans hx456_0
                          replace p456 := eq_true p456; replace q456 := eq_true q456
                          refine start_ (n := 25) (S := fun w' => w'.cell? ⟨gb415, 0, none⟩ = some (.int .i64 a2_0) ∧ w'.cell? ⟨gb415, 1, none⟩ = some (.int .i64 a2_1) ∧ w'.cell? ⟨gb415, 2, none⟩ = some (.int .i64 a2_2) ∧ w'.cell? ⟨gb415, 3, none⟩ = some (.bool false) ∧ w'.cell? ⟨gb414, 0, none⟩ = some (.slice (some ad456) l0_0.length c0_0) ∧ w'.cell? ⟨gb414, 1, none⟩ = some (.slice A0_1 l0_1.length c0_1) ∧ w'.cell? ⟨gb414, 2, none⟩ = some (.slice (some ad455) l0_2.length c0_2) ∧ w'.cell? (ad455.add ((x133_4).toNat * 8)) = some (.int .i64 ((rd_T58 l0_2 x133_4).f0)) ∧ w'.cell? ⟨(ad455.add ((x133_4).toNat * 8)).block, (ad455.add ((x133_4).toNat * 8)).off + 1, none⟩ = some (.int .i64 ((rd_T58 l0_2 x133_4).f1)) ∧ w'.cell? ⟨(ad455.add ((x133_4).toNat * 8)).block, (ad455.add ((x133_4).toNat * 8)).off + 2, none⟩ = some (.int .i64 ((rd_T58 l0_2 x133_4).f2)) ∧ w'.cell? ⟨(ad455.add ((x133_4).toNat * 8)).block, (ad455.add ((x133_4).toNat * 8)).off + 3, none⟩ = some (.int .i64 ((rd_T58 l0_2 x133_4).f3)) ∧ w'.cell? ⟨(ad455.add ((x133_4).toNat * 8)).block, (ad455.add ((x133_4).toNat * 8)).off + 4, none⟩ = some (.int .i64 ((rd_T58 l0_2 x133_4).f4)) ∧ w'.cell? ⟨(ad455.add ((x133_4).toNat * 8)).block, (ad455.add ((x133_4).toNat * 8)).off + 5, none⟩ = some (.slice A455_5 ((rd_T58 l0_2 x133_4).f5.f0).length c455_5) ∧ w'.cell? ⟨(ad455.add ((x133_4).toNat * 8)).block, (ad455.add ((x133_4).toNat * 8)).off + 6, none⟩ = some (.int .i64 ((rd_T58 l0_2 x133_4).f5.f1)) ∧ w'.cell? ⟨(ad455.add ((x133_4).toNat * 8)).block, (ad455.add ((x133_4).toNat * 8)).off + 7, none⟩ = some (.int .i64 ((rd_T58 l0_2 x133_4).f5.f2)) ∧ w'.cell? (ad456.add (((rd_T58 l0_2 x133_4).f1)).toNat) = some (.int .i64 (rd l0_0 ((rd_T58 l0_2 x133_4).f1)))) (ds := []) (bits 25 0) (by kernel_rfl) rfl rfl ⟨(blk_cell BK415.out 0).trans rfl, (blk_cell BK415.out 1).trans rfl, (blk_cell BK415.out 2).trans rfl, (blk_cell BK415.out 3).trans rfl, (blk_cell BK414.out 0).trans rfl, (blk_cell BK414.out 1).trans rfl, (blk_cell BK414.out 2).trans rfl, ((HB.out.cell (World.block_lt_of_cell? w _ hw455_0)).trans hw455_0), ((HB.out.cell (World.block_lt_of_cell? w _ hw455_1)).trans hw455_1), ((HB.out.cell (World.block_lt_of_cell? w _ hw455_2)).trans hw455_2), ((HB.out.cell (World.block_lt_of_cell? w _ hw455_3)).trans hw455_3), ((HB.out.cell (World.block_lt_of_cell? w _ hw455_4)).trans hw455_4), ((HB.out.cell (World.block_lt_of_cell? w _ hw455_5)).trans hw455_5), ((HB.out.cell (World.block_lt_of_cell? w _ hw455_6)).trans hw455_6), ((HB.out.cell (World.block_lt_of_cell? w _ hw455_7)).trans hw455_7), ((HB.out.cell (World.block_lt_of_cell? w _ hw456_0)).trans hw456_0)⟩ (fun hHeld => ?_); refine with_tabW mapmakerlaw47_TurnsFrees.tab28 mapmakerlaw47_TurnsFrees.bits28 (fun HT_ HW_ => ?_)
                          generalize w166.drew = w167 at HO_13 BK414 BK415 HB HR455_5 hx455_0 hx455_1 hx455_2 hx455_3 hx455_4 hx455_5 hx455_6 hx455_7 hx456_0 hHeld ⊢
                          refine q_ 0 152 HT_ ?_; refine q_ 1 153 HT_ ?_; refine qu_ 2 154 HT_ ?_; refine qu_ 3 155 HT_ ?_; refine q_ 4 156 HT_ ?_; refine q_ 5 157 HT_ ?_; refine q_ 6 158 HT_ ?_; refine q_ 8 160 HT_ ?_; refine q_ 10 162 HT_ ?_; refine q_ 12 164 HT_ ?_; refine take_ (i := 7) (N := some 159) (v := ?_) (a' := ?_) (bits 25 5631) rfl rfl (take_ofW HT_.out HW_.out (by kernel_rfl)) (fun _ _ _ h => h) (Or.inl ⟨by rfl, ?_⟩) hHeld ?_ ?_; rotate_left; (·rintro w' ⟨s0, s1, s2, s3, s4, s5, s6, s7, s8, s9, s10, s11, s12, s13, s14, s15⟩; go_simp; with_reducible rfl); rotate_left; (·simp only [putW]; rfl); refine take_ (i := 9) (N := some 161) (v := ?_) (a' := ?_) (bits 25 6143) rfl rfl (take_ofW HT_.out HW_.out (by kernel_rfl)) (fun _ _ _ h => h) (Or.inl ⟨by rfl, ?_⟩) hHeld ?_ ?_; rotate_left; (·rintro w' ⟨s0, s1, s2, s3, s4, s5, s6, s7, s8, s9, s10, s11, s12, s13, s14, s15⟩; go_simp; with_reducible rfl); rotate_left; (·simp only [putW]; rfl); refine take_ (i := 11) (N := some 163) (v := ?_) (a' := ?_) (bits 25 8191) rfl rfl (take_ofW HT_.out HW_.out (by kernel_rfl)) (fun _ _ _ h => h) (Or.inl ⟨by rfl, ?_⟩) hHeld ?_ ?_; rotate_left; (·rintro w' ⟨s0, s1, s2, s3, s4, s5, s6, s7, s8, s9, s10, s11, s12, s13, s14, s15⟩; go_simp; with_reducible rfl); rotate_left; (·simp only [putW]; rfl); refine q_ 13 165 HT_ ?_; refine q_ 14 166 HT_ ?_; refine take_ (i := 15) (N := some 167) (v := ?_) (a' := ?_) (bits 25 65535) rfl rfl (take_ofW HT_.out HW_.out (by kernel_rfl)) (fun _ _ _ h => h) (Or.inl ⟨by rfl, ?_⟩) hHeld ?_ ?_; rotate_left; (·rintro w' ⟨s0, s1, s2, s3, s4, s5, s6, s7, s8, s9, s10, s11, s12, s13, s14, s15⟩; go_simp; with_reducible rfl); rotate_left; (·simp only [putW]; rfl); refine q_ 16 168 HT_ ?_; refine take_ (i := 17) (N := some 169) (v := ?_) (a' := ?_) (bits 25 262143) rfl rfl (take_ofW HT_.out HW_.out (by kernel_rfl)) (fun _ _ _ h => h) (Or.inl ⟨by rfl, ?_⟩) hHeld ?_ ?_; rotate_left; (·rintro w' ⟨s0, s1, s2, s3, s4, s5, s6, s7, s8, s9, s10, s11, s12, s13, s14, s15⟩; go_simp; with_reducible rfl); rotate_left; (·simp only [putW]; rfl); refine q_ 18 170 HT_ ?_; refine q_ 19 171 HT_ ?_; refine q_ 20 172 HT_ ?_; refine q_ 21 173 HT_ ?_; refine q_ 22 174 HT_ ?_; refine q_ 23 175 HT_ ?_; refine q_ 24 176 HT_ ?_
                          refine done_ (done_of HT_.out (by kernel_rfl)) ?_
                          try go_wp2
                          go_roundg k5
                          case measure => have := HJ5.out; have := HJ52.out; have := HK3.out; have := HK4.out; have := HK5.out; omega
                          case rel => exact ⟨(wrap64 (x139_5 + 1)), byF, H', ⟨by have := HJ5.out; have := HJ52.out; have := HK3.out; have := HK4.out; have := HK5.out; omega⟩, ⟨by (with_reducible repeat (first | apply Kd.R_alloc | apply Kd.R_drewN | apply Kd.R_drew)); exact HO_13.out⟩, ⟨by (with_reducible repeat (first | refine blk_drewN ?_ _ | refine blk_drew ?_ | refine blk_alloc ?_ _)); exact BK414.out⟩, ⟨by (with_reducible repeat (first | refine blk_drewN ?_ _ | refine blk_drew ?_ | refine blk_alloc ?_ _)); exact BK415.out⟩, ⟨byB2 HB.out GE414.out GE415.out⟩⟩
                       ·rw [if_neg c150] at H
                        exact absurd H (by simp)
                      ·rw [if_neg c149] at H
                       exact absurd H (by simp)
                     ·rw [if_neg c148] at H
                      exact absurd H (by simp)
                    ·rw [if_neg c147] at H
                     exact absurd H (by simp)
                  ·rw [if_neg c116] at H
                   have c116b0 : decide (x139_5 < (l0_2.length : Int)) = false := decide_eq_false c116
                   clear c116
                   have H' := Aside0.mk H
                   clear H
                   go_wp2
                   go_roundg k5
                   case measure => have := HJ5.out; have := HJ52.out; have := HK3.out; have := HK4.out; have := HK5.out; omega
                   case rel => exact ⟨(wrap64 (x133_4 + 1)), byF, H', ⟨by have := HJ5.out; have := HJ52.out; have := HK3.out; have := HK4.out; have := HK5.out; omega⟩, ⟨by (with_reducible repeat (first | apply Kd.R_alloc | apply Kd.R_drewN | apply Kd.R_drew)); exact HO_13.out⟩, ⟨by (with_reducible repeat (first | refine blk_drewN ?_ _ | refine blk_drew ?_ | refine blk_alloc ?_ _)); exact BK414.out⟩, ⟨by (with_reducible repeat (first | refine blk_drewN ?_ _ | refine blk_drew ?_ | refine blk_alloc ?_ _)); exact BK415.out⟩, ⟨byB2 HB.out GE414.out GE415.out⟩⟩
               ·rw [if_neg c113] at H
                have c113b0 : decide (x133_4 < (l0_2.length : Int)) = false := decide_eq_false c113
                clear c113
                replace H := Option.bind_eq_some_iff.mp H
                obtain ⟨t450, A1680, H⟩ := H
                replace H : (some t450) = some r := H
                have A168 := Aside0.mk A1680; clear A1680
                obtain rfl := Option.some.inj H
                go_wp2_with (first | ((with_reducible refine gate_callee (f := 9) rfl ?_); refine goesL_ (some 179) rfl rfl Try.func9 (by kernel_rfl) rfl #[] rfl byL ?_; (with_reducible refine (mapmakerlaw47_lives.calls  t450 _ A168.out).mono ?_); rintro e w169 ⟨rfl, hb⟩; refine ⟨_, rfl, ?_⟩; have n0_ := Aside0.mk (Kd.R_below (byR HO_13.out) hb); have n1_ := Aside0.mk (blk_below (g := gb414) (o := .cells #[.slice A0_0 l0_0.length c0_0, .slice A0_1 l0_1.length c0_1, .slice A0_2 l0_2.length c0_2] 37 (0, 0)) (byK BK414.out) hb); have n2_ := Aside0.mk (blk_below (g := gb415) (o := .cells #[.int .i64 a2_0, .int .i64 a2_1, .int .i64 a2_2, .bool false] 42 (0, 0)) (byK BK415.out) hb); have n3_ := Aside0.mk (below_step (byB2 HB.out GE414.out GE415.out) hb); clear HO_13 BK414 BK415 HB; have HO_13 := n0_; have BK414 := n1_; have BK415 := n2_; have HB := n3_; clear n0_ n1_ n2_ n3_; (try clear hb); (try clear hb2); (try clear hk); (try clear hi)))
                go_ret
                exact ⟨byE, byB2 HB.out GE414.out GE415.out⟩
      ·rw [if_neg c47] at H
       exact absurd H (by simp)
     ·rw [if_neg c46] at H
      exact absurd H (by simp)
    ·rw [if_neg c45] at H
     have c45b0 : (t422 == 0) = false := beq_eq_false_iff_ne.mpr c45
     have c45b1 : (t422 != 0) = true := bne_iff_ne.mpr c45
     replace H := Option.bind_eq_some_iff.mp H
     obtain ⟨t423, A1700, H⟩ := H
     replace H : (some t423) = some r := H
     have A170 := Aside0.mk A1700; clear A1700
     obtain rfl := Option.some.inj H
     have hnb171 := NB414_415.out; have hnc171 := NB415_414.out
     have hcz172_0 : wc.cell? ⟨gb414, 0, none⟩ = some (.slice A0_0 l0_0.length c0_0) := (blk_cell BK414.out 0).trans rfl
     have hcz172_1 : wc.cell? ⟨gb414, 1, none⟩ = some (.slice A0_1 l0_1.length c0_1) := (blk_cell BK414.out 1).trans rfl
     have hcz172_2 : wc.cell? ⟨gb414, 2, none⟩ = some (.slice A0_2 l0_2.length c0_2) := (blk_cell BK414.out 2).trans rfl
     have hfz172_0 := blk_frozen BK414.out 0; have hfz172_1 := blk_frozen BK414.out 1; have hfz172_2 := blk_frozen BK414.out 2
     go_wp2_with (first | ((with_reducible refine gate_callee (f := 21) rfl ?_); refine goesL_ (some 58) rfl rfl Try.func21 (by kernel_rfl) rfl #[.agg #[.slice A0_0 l0_0.length c0_0, .slice A0_1 l0_1.length c0_1, .slice A0_2 l0_2.length c0_2], .slice none 0 0, .slice A3 l3.length c3] rfl byL ?_; (refine (turns_Weights.calls kj5 _ _ l0_0 _ _ l0_1 _ _ l0_2 _ _ ([] : List (S42)) _ _ l3 t419 t422 _ ?side1 ?side2 ?side3 ?side4 ?side5 ?side6 ?side7 ?side8 ?side9 ?side10 A44.out).mono ?_); (case side1 => exact byC (Kd.C_below HR0_0.out HB.out)); (case side2 => exact HC0_0.out); (case side3 => exact byC (Kd.C_below HR0_1.out HB.out)); (case side4 => exact HC0_1.out); (case side5 => exact byC (Kd.C_below HR0_2.out HB.out)); (case side6 => exact HC0_2.out); (case side7 => exact Kd.C_nil _ _); (case side8 => exact Nat.le_refl _); (case side9 => exact byC (Kd.C_below HR3.out HB.out)); (case side10 => exact HC3.out); rintro e w173 ⟨v420, rfl, ho0, hb⟩; refine ⟨_, rfl, ?_⟩; have n0_ := Aside0.mk (Kd.R_lower ho0 (below_size (byB2 HB.out GE414.out GE415.out))); have n1_ := Aside0.mk (blk_below (g := gb414) (o := .cells #[.slice A0_0 l0_0.length c0_0, .slice A0_1 l0_1.length c0_1, .slice A0_2 l0_2.length c0_2] 37 (0, 0)) (byK BK414.out) hb); have n2_ := Aside0.mk (blk_below (g := gb415) (o := .cells #[.int .i64 a2_0, .int .i64 a2_1, .int .i64 a2_2, .bool a2_3] 42 (0, 0)) (byK BK415.out) hb); have n3_ := Aside0.mk (below_step (byB2 HB.out GE414.out GE415.out) hb); clear BK414 BK415 HB; have HO421 := n0_; have BK414 := n1_; have BK415 := n2_; have HB := n3_; clear n0_ n1_ n2_ n3_; (try clear hb); (try clear hb2); (try clear hk); (try clear hi); (try clear ho0)) | ((with_reducible refine gate_callee (f := 9) rfl ?_); refine goesL_ (some 63) rfl rfl Try.func9 (by kernel_rfl) rfl #[] rfl byL ?_; (with_reducible refine (mapmakerlaw47_lives.calls  t423 _ A170.out).mono ?_); rintro e w174 ⟨rfl, hb⟩; refine ⟨_, rfl, ?_⟩; have n0_ := Aside0.mk (Kd.R_below (byR HO421.out) hb); have n1_ := Aside0.mk (blk_below (g := gb414) (o := .cells #[.slice A0_0 l0_0.length c0_0, .slice A0_1 l0_1.length c0_1, .slice A0_2 l0_2.length c0_2] 37 (0, 0)) (byK BK414.out) hb); have n2_ := Aside0.mk (blk_below (g := gb415) (o := .cells #[.int .i64 a2_0, .int .i64 a2_1, .int .i64 a2_2, .bool a2_3] 42 (0, 0)) (byK BK415.out) hb); have n3_ := Aside0.mk (below_step (byB2 HB.out GE414.out GE415.out) hb); clear HO421 BK414 BK415 HB; have HO421 := n0_; have BK414 := n1_; have BK415 := n2_; have HB := n3_; clear n0_ n1_ n2_ n3_; (try clear hb); (try clear hb2); (try clear hk); (try clear hi)))
     go_ret
     exact ⟨byE, byB2 HB.out GE414.out GE415.out⟩
def mapmakerlaw47_TurnsFrees.Pure : Prop := ∀ (l0_0 : List Int) (l0_1 : List (S158)) (l0_2 : List (S58)) (l1 : List (S42)) (a2_0 : Int) (a2_1 : Int) (a2_2 : Int) (a2_3 : Bool) (l3 : List Int) (a4 : Int), (l0_0.length * 8 ≤ 140737488351232 ∧ ∀ y ∈ l0_0, Wf .i64 y) → (l0_1.length * 16 ≤ 140737488351232 ∧ ∀ y ∈ l0_1, g158 y) → (l0_2.length * 80 ≤ 140737488351232 ∧ ∀ y ∈ l0_2, g58 y) → (l1.length * 32 ≤ 140737488351232 ∧ ∀ y ∈ l1, g42 y) → (Wf .i64 a2_0) → (Wf .i64 a2_1) → (Wf .i64 a2_2) → (l3.length * 8 ≤ 140737488351232 ∧ ∀ y ∈ l3, Wf .i64 y) → (Wf .i64 a4) → ∃ k, mapmakerlaw47_TurnsFrees.f k l0_0 l0_1 l0_2 l1 a2_0 a2_1 a2_2 a2_3 l3 a4 = some true
end Go.Proofs.Ytaodlehnfjalnaa.Print
