/- Written by a program of this claim's author (xprint.py, over the kit's print.py): the call of mapmaker/mapmakerlaw47.cross comes to what the Lean function of its name says. -/
import Derived.Test.YtaodlehnfjalnaaPrint0
import Derived.Test.YtaodlehnfjalnaaM14
import Derived.Test.YtaodlehnfjalnaaM0
namespace Go.Proofs.Ytaodlehnfjalnaa.Print
open Go.RowKit Go.Proofs.YtaodlehnfjalnaaW.PrintWords Go.Proofs.YtaodlehnfjalnaaW.PrintLast Go.Proofs.YtaodlehnfjalnaaW.PrintMore
attribute [local go_sem] max2_int min2_int max_two min_two max_three min_three max_four min_four   -- for this text's walks alone
set_option linter.unusedVariables false
set_option linter.unusedSimpArgs false
/-! ### mapmakerlaw47_cross: function 29 -/
def mapmakerlaw47_cross.f  : Option (List Int × (List (S158)) × (List (S58))) := if 4 ≤ 17592186044416 then ((mapmakerlaw47_piece.f 0 1 1).bind fun bt357 => ((mapmakerlaw47_piece.f 1 2 3).bind fun bt367 => ((mapmakerlaw47_piece.f 1 3 4).bind fun bt377 => (some ((([1, 2, 3, 4] : List Int)), (List.replicate 4 z158), (([(⟨bt357.1, bt357.2.1, bt357.2.2.1, bt357.2.2.2.1, bt357.2.2.2.2.1, (⟨bt357.2.2.2.2.2.1, bt357.2.2.2.2.2.2.1, bt357.2.2.2.2.2.2.2⟩ : S56)⟩ : S58), (⟨bt367.1, bt367.2.1, bt367.2.2.1, bt367.2.2.2.1, bt367.2.2.2.2.1, (⟨bt367.2.2.2.2.2.1, bt367.2.2.2.2.2.2.1, bt367.2.2.2.2.2.2.2⟩ : S56)⟩ : S58), (⟨bt377.1, bt377.2.1, bt377.2.2.1, bt377.2.2.2.1, bt377.2.2.2.2.1, (⟨bt377.2.2.2.2.2.1, bt377.2.2.2.2.2.2.1, bt377.2.2.2.2.2.2.2⟩ : S56)⟩ : S58)] : List (S58)))))))) else (none)
def mapmakerlaw47_cross.T1 : Bool × List (List Nat × List Nat) := (true, [([], []), ([], []), ([], []), ([2], []), ([3], []), ([2, 3, 4], [2, 3, 4]), ([0, 1, 5], [0, 1, 5]), ([6, 4, 0, 1, 2, 3, 4, 5, 6], [6])])
def mapmakerlaw47_cross.B1 : List Nat := [0, 0, 0, 4, 12, 28, 63, 127]
theorem mapmakerlaw47_cross.tab1 : rtab .any (opsOf Try.f29 1) = mapmakerlaw47_cross.T1 := by kernel_rfl
theorem mapmakerlaw47_cross.bits1 : waitsOk mapmakerlaw47_cross.T1.2 mapmakerlaw47_cross.B1 = true := by kernel_rfl
set_option maxHeartbeats 8000000 in
set_option maxRecDepth 100000 in
theorem mapmakerlaw47_cross.calls  (r1 : List Int) (r2 : List (S158)) (r3 : List (S58)) (w : World) (h : mapmakerlaw47_cross.f  = some (r1, r2, r3)) :
  Calls Try.prog 29 #[] w fun e w' => ∃ v0_ v1_ v2_ : Value, e = .returned (.agg #[v0_, v1_, v2_]) ∧ Kd.R (Kd.int .i64) 3 w' w.heap.size (fun k_ => (w.heap.size ≤ k_)) v0_ r1 ∧ Kd.R k158 158 w' w.heap.size (fun k_ => (w.heap.size ≤ k_)) v1_ r2 ∧ Kd.N k58 58 w' w.heap.size (fun k_ => (w.heap.size ≤ k_) ∧ some k_ ≠ (v0_ : Value).ownBlock ∧ some k_ ≠ (v1_ : Value).ownBlock) v2_ r3 ∧ Below w.heap.size w w' := by
 have hu37 := Try.underlying37; have HB := Aside0.mk (Below.refl w.heap.size w)
 have H : (if 4 ≤ 17592186044416 then ((mapmakerlaw47_piece.f 0 1 1).bind fun bt357 => ((mapmakerlaw47_piece.f 1 2 3).bind fun bt367 => ((mapmakerlaw47_piece.f 1 3 4).bind fun bt377 => (some ((([1, 2, 3, 4] : List Int)), (List.replicate 4 z158), (([(⟨bt357.1, bt357.2.1, bt357.2.2.1, bt357.2.2.2.1, bt357.2.2.2.2.1, (⟨bt357.2.2.2.2.2.1, bt357.2.2.2.2.2.2.1, bt357.2.2.2.2.2.2.2⟩ : S56)⟩ : S58), (⟨bt367.1, bt367.2.1, bt367.2.2.1, bt367.2.2.2.1, bt367.2.2.2.2.1, (⟨bt367.2.2.2.2.2.1, bt367.2.2.2.2.2.2.1, bt367.2.2.2.2.2.2.2⟩ : S56)⟩ : S58), (⟨bt377.1, bt377.2.1, bt377.2.2.1, bt377.2.2.2.1, bt377.2.2.2.2.1, (⟨bt377.2.2.2.2.2.1, bt377.2.2.2.2.2.2.1, bt377.2.2.2.2.2.2.2⟩ : S56)⟩ : S58)] : List (S58)))))))) else (none)) = some (r1, r2, r3) := h
 clear h
 obtain ⟨y351, hy351⟩ : ∃ y_ : List Int, y_ = (([1, 2, 3, 4] : List Int)) := ⟨_, rfl⟩
 replace H : (if 4 ≤ 17592186044416 then ((mapmakerlaw47_piece.f 0 1 1).bind fun bt357 => ((mapmakerlaw47_piece.f 1 2 3).bind fun bt367 => ((mapmakerlaw47_piece.f 1 3 4).bind fun bt377 => (some (y351, (List.replicate 4 z158), (([(⟨bt357.1, bt357.2.1, bt357.2.2.1, bt357.2.2.2.1, bt357.2.2.2.2.1, (⟨bt357.2.2.2.2.2.1, bt357.2.2.2.2.2.2.1, bt357.2.2.2.2.2.2.2⟩ : S56)⟩ : S58), (⟨bt367.1, bt367.2.1, bt367.2.2.1, bt367.2.2.2.1, bt367.2.2.2.2.1, (⟨bt367.2.2.2.2.2.1, bt367.2.2.2.2.2.2.1, bt367.2.2.2.2.2.2.2⟩ : S56)⟩ : S58), (⟨bt377.1, bt377.2.1, bt377.2.2.1, bt377.2.2.2.1, bt377.2.2.2.2.1, (⟨bt377.2.2.2.2.2.1, bt377.2.2.2.2.2.2.1, bt377.2.2.2.2.2.2.2⟩ : S56)⟩ : S58)] : List (S58)))))))) else (none)) = some (r1, r2, r3) := by first | (rw [hy351]; with_reducible exact H) | (have H2_ := (Option.bind_some _ _).symm.trans H; rw [hy351]; with_reducible exact H2_) | (have H2_ := (Option.bind_some _ _).symm.trans H; with_reducible exact H2_) | with_reducible exact H | (rw [hy351]; exact H) | exact H
 have Ny351 := Aside0.mk hy351; clear hy351
 by_cases c1 : 4 ≤ 17592186044416
 ·rw [if_pos c1] at H
  have c1b0 := eq_true c1
  have c1b1 : decide (4 ≤ 17592186044416) = true := decide_eq_true c1
  clear c1
  obtain ⟨y354, hy354⟩ : ∃ y_ : List (S158), y_ = (List.replicate 4 z158) := ⟨_, rfl⟩
  replace H : ((mapmakerlaw47_piece.f 0 1 1).bind fun bt357 => ((mapmakerlaw47_piece.f 1 2 3).bind fun bt367 => ((mapmakerlaw47_piece.f 1 3 4).bind fun bt377 => (some (y351, y354, (([(⟨bt357.1, bt357.2.1, bt357.2.2.1, bt357.2.2.2.1, bt357.2.2.2.2.1, (⟨bt357.2.2.2.2.2.1, bt357.2.2.2.2.2.2.1, bt357.2.2.2.2.2.2.2⟩ : S56)⟩ : S58), (⟨bt367.1, bt367.2.1, bt367.2.2.1, bt367.2.2.2.1, bt367.2.2.2.2.1, (⟨bt367.2.2.2.2.2.1, bt367.2.2.2.2.2.2.1, bt367.2.2.2.2.2.2.2⟩ : S56)⟩ : S58), (⟨bt377.1, bt377.2.1, bt377.2.2.1, bt377.2.2.2.1, bt377.2.2.2.2.1, (⟨bt377.2.2.2.2.2.1, bt377.2.2.2.2.2.2.1, bt377.2.2.2.2.2.2.2⟩ : S56)⟩ : S58)] : List (S58)))))))) = some (r1, r2, r3) := by first | (rw [hy354]; with_reducible exact H) | (have H2_ := (Option.bind_some _ _).symm.trans H; rw [hy354]; with_reducible exact H2_) | (have H2_ := (Option.bind_some _ _).symm.trans H; with_reducible exact H2_) | with_reducible exact H | (rw [hy354]; exact H) | exact H
  have Ny354 := Aside0.mk hy354; clear hy354
  replace H := Option.bind_eq_some_iff.mp H
  obtain ⟨⟨t357, t358, t359, t360, t361, t362, t365, t366⟩, A20, H⟩ := H
  replace H : ((mapmakerlaw47_piece.f 1 2 3).bind fun bt367 => ((mapmakerlaw47_piece.f 1 3 4).bind fun bt377 => (some (y351, y354, (([(⟨t357, t358, t359, t360, t361, (⟨t362, t365, t366⟩ : S56)⟩ : S58), (⟨bt367.1, bt367.2.1, bt367.2.2.1, bt367.2.2.2.1, bt367.2.2.2.2.1, (⟨bt367.2.2.2.2.2.1, bt367.2.2.2.2.2.2.1, bt367.2.2.2.2.2.2.2⟩ : S56)⟩ : S58), (⟨bt377.1, bt377.2.1, bt377.2.2.1, bt377.2.2.2.1, bt377.2.2.2.2.1, (⟨bt377.2.2.2.2.2.1, bt377.2.2.2.2.2.2.1, bt377.2.2.2.2.2.2.2⟩ : S56)⟩ : S58)] : List (S58))))))) = some (r1, r2, r3) := H
  have A2 := Aside0.mk A20; clear A20
  replace H := Option.bind_eq_some_iff.mp H
  obtain ⟨⟨t367, t368, t369, t370, t371, t372, t375, t376⟩, A30, H⟩ := H
  replace H : ((mapmakerlaw47_piece.f 1 3 4).bind fun bt377 => (some (y351, y354, (([(⟨t357, t358, t359, t360, t361, (⟨t362, t365, t366⟩ : S56)⟩ : S58), (⟨t367, t368, t369, t370, t371, (⟨t372, t375, t376⟩ : S56)⟩ : S58), (⟨bt377.1, bt377.2.1, bt377.2.2.1, bt377.2.2.2.1, bt377.2.2.2.2.1, (⟨bt377.2.2.2.2.2.1, bt377.2.2.2.2.2.2.1, bt377.2.2.2.2.2.2.2⟩ : S56)⟩ : S58)] : List (S58)))))) = some (r1, r2, r3) := H
  have A3 := Aside0.mk A30; clear A30
  replace H := Option.bind_eq_some_iff.mp H
  obtain ⟨⟨t377, t378, t379, t380, t381, t382, t385, t386⟩, A40, H⟩ := H
  replace H : (some (y351, y354, (([(⟨t357, t358, t359, t360, t361, (⟨t362, t365, t366⟩ : S56)⟩ : S58), (⟨t367, t368, t369, t370, t371, (⟨t372, t375, t376⟩ : S56)⟩ : S58), (⟨t377, t378, t379, t380, t381, (⟨t382, t385, t386⟩ : S56)⟩ : S58)] : List (S58))))) = some (r1, r2, r3) := H
  have A4 := Aside0.mk A40; clear A40
  obtain ⟨y387, hy387⟩ : ∃ y_ : List (S58), y_ = (([(⟨t357, t358, t359, t360, t361, (⟨t362, t365, t366⟩ : S56)⟩ : S58), (⟨t367, t368, t369, t370, t371, (⟨t372, t375, t376⟩ : S56)⟩ : S58), (⟨t377, t378, t379, t380, t381, (⟨t382, t385, t386⟩ : S56)⟩ : S58)] : List (S58))) := ⟨_, rfl⟩
  replace H : (some (y351, y354, y387)) = some (r1, r2, r3) := by first | (rw [hy387]; with_reducible exact H) | (have H2_ := (Option.bind_some _ _).symm.trans H; rw [hy387]; with_reducible exact H2_) | (have H2_ := (Option.bind_some _ _).symm.trans H; with_reducible exact H2_) | with_reducible exact H | (rw [hy387]; exact H) | exact H
  have Ny387 := Aside0.mk hy387; clear hy387
  simp only [Option.some.injEq, Prod.mk.injEq] at H
  obtain ⟨rfl, rfl, rfl⟩ := H
  go_enter Try.func29, Try.ntmps29
  try go_wp2_with (first | ((with_reducible refine gate_dst (N := 0) rfl ?_); refine box_event ?hg (N := 0) ?hd (cs := #[.slice none 0 0, .slice none 0 0, .slice none 0 0]) (t := 37) ?hr ?_; (case hd => rfl); (case hg => rfl); (case hr => first | (go_simp; done) | (go_simp; rfl)); intro gb350 hg w5 hbox hb; have n0_ := Aside0.mk (below_step (byB HB.out) hb); have n1_ := Aside0.mk (hbox); have n2_ := Aside0.mk ((by rw [hg]; exact (below_size (byB HB.out)) : w.heap.size ≤ gb350)); have n3_ := Aside0.mk ((by rw [hg]; exact (below_size (byB HB.out)) : w.heap.size ≤ gb350)); clear HB; have HB := n0_; have BK350 := n1_; have GW350 := n2_; have GE350 := n3_; clear n0_ n1_ n2_ n3_ hb hbox hg))
  have n0_ := Aside0.mk (blk_drew BK350.out); have n1_ := Aside0.mk (below_drew1 HB.out); clear BK350 HB; have BK350 := n0_; have HB := n1_; clear n0_ n1_
  refine start_ (n := 8) (S := fun w' => True) (ds := []) (bits 8 0) (by kernel_rfl) rfl rfl trivial (fun hHeld => ?_); refine with_tabW mapmakerlaw47_cross.tab1 mapmakerlaw47_cross.bits1 (fun HT_ HW_ => ?_)
  generalize w5.drew = w6 at BK350 HB hHeld ⊢
  refine join_ (σ := Value × Value × Value × Value × Value × Value) 2 (bits 8 63) (fun s_ => [(1, s_.1), (2, s_.2.1), (3, .agg #[.int .i64 t357, .int .i64 t358, .int .i64 t359, .int .i64 t360, .int .i64 t361, s_.2.2.1, .int .i64 t365, .int .i64 t366]), (4, .agg #[.int .i64 t367, .int .i64 t368, .int .i64 t369, .int .i64 t370, .int .i64 t371, s_.2.2.2.1, .int .i64 t375, .int .i64 t376]), (5, .agg #[.int .i64 t377, .int .i64 t378, .int .i64 t379, .int .i64 t380, .int .i64 t381, s_.2.2.2.2.1, .int .i64 t385, .int .i64 t386]), (6, s_.2.2.2.2.2)]) (fun s_ w' => (Kd.R (Kd.int .i64) 3 w' w.heap.size (fun k_ => (w.heap.size ≤ k_)) s_.1 y351) ∧ (Kd.R k158 158 w' w.heap.size (fun k_ => (w.heap.size ≤ k_)) s_.2.1 y354) ∧ (Kd.N k58 58 w' w.heap.size (fun k_ => (w.heap.size ≤ k_) ∧ some k_ ≠ (s_.1 : Value).ownBlock ∧ some k_ ≠ (s_.2.1 : Value).ownBlock ∧ k_ ≠ gb350) s_.2.2.2.2.2 y387) ∧ (w'.heap[gb350]? = some (.cells #[.slice none 0 0, .slice none 0 0, .slice none 0 0] 37 (0, 0))) ∧ (Below w.heap.size w w')) ?_ ?_
  rotate_left
  ·intro hJ0_1_2_3_4_5
   refine join_ (σ := Value × Value × Value × Value × Value) 3 (bits 8 31) (fun s_ => [(1, s_.1), (2, s_.2.1), (3, .agg #[.int .i64 t357, .int .i64 t358, .int .i64 t359, .int .i64 t360, .int .i64 t361, s_.2.2.1, .int .i64 t365, .int .i64 t366]), (4, .agg #[.int .i64 t367, .int .i64 t368, .int .i64 t369, .int .i64 t370, .int .i64 t371, s_.2.2.2.1, .int .i64 t375, .int .i64 t376]), (5, .agg #[.int .i64 t377, .int .i64 t378, .int .i64 t379, .int .i64 t380, .int .i64 t381, s_.2.2.2.2, .int .i64 t385, .int .i64 t386])]) (fun s_ w' => (Kd.R (Kd.int .i64) 3 w' w.heap.size (fun k_ => (w.heap.size ≤ k_)) s_.1 y351) ∧ (Kd.R k158 158 w' w.heap.size (fun k_ => (w.heap.size ≤ k_)) s_.2.1 y354) ∧ (Kd.R k120 120 w' w.heap.size (fun k_ => (w.heap.size ≤ k_) ∧ some k_ ≠ (s_.2.2.2.1 : Value).ownBlock ∧ some k_ ≠ (s_.2.2.2.2 : Value).ownBlock) s_.2.2.1 t362) ∧ (Kd.R k120 120 w' w.heap.size (fun k_ => (w.heap.size ≤ k_) ∧ some k_ ≠ (s_.2.2.1 : Value).ownBlock ∧ some k_ ≠ (s_.2.2.2.2 : Value).ownBlock) s_.2.2.2.1 t372) ∧ (Kd.R k120 120 w' w.heap.size (fun k_ => (w.heap.size ≤ k_) ∧ some k_ ≠ (s_.2.2.1 : Value).ownBlock ∧ some k_ ≠ (s_.2.2.2.1 : Value).ownBlock) s_.2.2.2.2 t382) ∧ (w'.heap[gb350]? = some (.cells #[.slice none 0 0, .slice none 0 0, .slice none 0 0] 37 (0, 0))) ∧ (Below w.heap.size w w')) ?_ ?_
   rotate_left
   ·intro hJ0_1_2_3_4
    refine join_ (σ := Value × Value × Value × Value × Value) 3 (bits 8 61) (fun s_ => [(1, s_.1), (3, .agg #[.int .i64 t357, .int .i64 t358, .int .i64 t359, .int .i64 t360, .int .i64 t361, s_.2.1, .int .i64 t365, .int .i64 t366]), (4, .agg #[.int .i64 t367, .int .i64 t368, .int .i64 t369, .int .i64 t370, .int .i64 t371, s_.2.2.1, .int .i64 t375, .int .i64 t376]), (5, .agg #[.int .i64 t377, .int .i64 t378, .int .i64 t379, .int .i64 t380, .int .i64 t381, s_.2.2.2.1, .int .i64 t385, .int .i64 t386]), (6, s_.2.2.2.2)]) (fun s_ w' => (Kd.R (Kd.int .i64) 3 w' w.heap.size (fun k_ => (w.heap.size ≤ k_)) s_.1 y351) ∧ (Kd.N k58 58 w' w.heap.size (fun k_ => (w.heap.size ≤ k_) ∧ some k_ ≠ (s_.1 : Value).ownBlock ∧ k_ ≠ gb350) s_.2.2.2.2 y387) ∧ (w'.heap[gb350]? = some (.cells #[.slice none 0 0, .slice none 0 0, .slice none 0 0] 37 (0, 0))) ∧ (Below w.heap.size w w')) ?_ ?_
    rotate_left
    ·intro hJ0_2_3_4_5
     refine join_ (σ := Value × Value × Value × Value × Value) 3 (bits 8 62) (fun s_ => [(2, s_.1), (3, .agg #[.int .i64 t357, .int .i64 t358, .int .i64 t359, .int .i64 t360, .int .i64 t361, s_.2.1, .int .i64 t365, .int .i64 t366]), (4, .agg #[.int .i64 t367, .int .i64 t368, .int .i64 t369, .int .i64 t370, .int .i64 t371, s_.2.2.1, .int .i64 t375, .int .i64 t376]), (5, .agg #[.int .i64 t377, .int .i64 t378, .int .i64 t379, .int .i64 t380, .int .i64 t381, s_.2.2.2.1, .int .i64 t385, .int .i64 t386]), (6, s_.2.2.2.2)]) (fun s_ w' => (Kd.R k158 158 w' w.heap.size (fun k_ => (w.heap.size ≤ k_)) s_.1 y354) ∧ (Kd.N k58 58 w' w.heap.size (fun k_ => (w.heap.size ≤ k_) ∧ some k_ ≠ (s_.1 : Value).ownBlock ∧ k_ ≠ gb350) s_.2.2.2.2 y387) ∧ (w'.heap[gb350]? = some (.cells #[.slice none 0 0, .slice none 0 0, .slice none 0 0] 37 (0, 0))) ∧ (Below w.heap.size w w')) ?_ ?_
     rotate_left
     ·intro hJ1_2_3_4_5
      refine join_ (σ := Value × Value × Value × Value) 4 (bits 8 15) (fun s_ => [(1, s_.1), (2, s_.2.1), (3, .agg #[.int .i64 t357, .int .i64 t358, .int .i64 t359, .int .i64 t360, .int .i64 t361, s_.2.2.1, .int .i64 t365, .int .i64 t366]), (4, .agg #[.int .i64 t367, .int .i64 t368, .int .i64 t369, .int .i64 t370, .int .i64 t371, s_.2.2.2, .int .i64 t375, .int .i64 t376])]) (fun s_ w' => (Kd.R (Kd.int .i64) 3 w' w.heap.size (fun k_ => (w.heap.size ≤ k_)) s_.1 y351) ∧ (Kd.R k158 158 w' w.heap.size (fun k_ => (w.heap.size ≤ k_)) s_.2.1 y354) ∧ (Kd.R k120 120 w' w.heap.size (fun k_ => (w.heap.size ≤ k_) ∧ some k_ ≠ (s_.2.2.2 : Value).ownBlock) s_.2.2.1 t362) ∧ (Kd.R k120 120 w' w.heap.size (fun k_ => (w.heap.size ≤ k_) ∧ some k_ ≠ (s_.2.2.1 : Value).ownBlock) s_.2.2.2 t372) ∧ (w'.heap[gb350]? = some (.cells #[.slice none 0 0, .slice none 0 0, .slice none 0 0] 37 (0, 0))) ∧ (Below w.heap.size w w')) ?_ ?_
      rotate_left
      ·intro hJ0_1_2_3
       refine join_ (σ := Value × Value × Value × Value) 4 (bits 8 29) (fun s_ => [(1, s_.1), (3, .agg #[.int .i64 t357, .int .i64 t358, .int .i64 t359, .int .i64 t360, .int .i64 t361, s_.2.1, .int .i64 t365, .int .i64 t366]), (4, .agg #[.int .i64 t367, .int .i64 t368, .int .i64 t369, .int .i64 t370, .int .i64 t371, s_.2.2.1, .int .i64 t375, .int .i64 t376]), (5, .agg #[.int .i64 t377, .int .i64 t378, .int .i64 t379, .int .i64 t380, .int .i64 t381, s_.2.2.2, .int .i64 t385, .int .i64 t386])]) (fun s_ w' => (Kd.R (Kd.int .i64) 3 w' w.heap.size (fun k_ => (w.heap.size ≤ k_)) s_.1 y351) ∧ (Kd.R k120 120 w' w.heap.size (fun k_ => (w.heap.size ≤ k_) ∧ some k_ ≠ (s_.2.2.1 : Value).ownBlock ∧ some k_ ≠ (s_.2.2.2 : Value).ownBlock) s_.2.1 t362) ∧ (Kd.R k120 120 w' w.heap.size (fun k_ => (w.heap.size ≤ k_) ∧ some k_ ≠ (s_.2.1 : Value).ownBlock ∧ some k_ ≠ (s_.2.2.2 : Value).ownBlock) s_.2.2.1 t372) ∧ (Kd.R k120 120 w' w.heap.size (fun k_ => (w.heap.size ≤ k_) ∧ some k_ ≠ (s_.2.1 : Value).ownBlock ∧ some k_ ≠ (s_.2.2.1 : Value).ownBlock) s_.2.2.2 t382) ∧ (w'.heap[gb350]? = some (.cells #[.slice none 0 0, .slice none 0 0, .slice none 0 0] 37 (0, 0))) ∧ (Below w.heap.size w w')) ?_ ?_
       rotate_left
       ·intro hJ0_2_3_4
        refine join_ (σ := Value × Value × Value × Value) 4 (bits 8 30) (fun s_ => [(2, s_.1), (3, .agg #[.int .i64 t357, .int .i64 t358, .int .i64 t359, .int .i64 t360, .int .i64 t361, s_.2.1, .int .i64 t365, .int .i64 t366]), (4, .agg #[.int .i64 t367, .int .i64 t368, .int .i64 t369, .int .i64 t370, .int .i64 t371, s_.2.2.1, .int .i64 t375, .int .i64 t376]), (5, .agg #[.int .i64 t377, .int .i64 t378, .int .i64 t379, .int .i64 t380, .int .i64 t381, s_.2.2.2, .int .i64 t385, .int .i64 t386])]) (fun s_ w' => (Kd.R k158 158 w' w.heap.size (fun k_ => (w.heap.size ≤ k_)) s_.1 y354) ∧ (Kd.R k120 120 w' w.heap.size (fun k_ => (w.heap.size ≤ k_) ∧ some k_ ≠ (s_.2.2.1 : Value).ownBlock ∧ some k_ ≠ (s_.2.2.2 : Value).ownBlock) s_.2.1 t362) ∧ (Kd.R k120 120 w' w.heap.size (fun k_ => (w.heap.size ≤ k_) ∧ some k_ ≠ (s_.2.1 : Value).ownBlock ∧ some k_ ≠ (s_.2.2.2 : Value).ownBlock) s_.2.2.1 t372) ∧ (Kd.R k120 120 w' w.heap.size (fun k_ => (w.heap.size ≤ k_) ∧ some k_ ≠ (s_.2.1 : Value).ownBlock ∧ some k_ ≠ (s_.2.2.1 : Value).ownBlock) s_.2.2.2 t382) ∧ (w'.heap[gb350]? = some (.cells #[.slice none 0 0, .slice none 0 0, .slice none 0 0] 37 (0, 0))) ∧ (Below w.heap.size w w')) ?_ ?_
        rotate_left
        ·intro hJ1_2_3_4
         refine join_ (σ := Value × Value × Value × Value) 4 (bits 8 60) (fun s_ => [(3, .agg #[.int .i64 t357, .int .i64 t358, .int .i64 t359, .int .i64 t360, .int .i64 t361, s_.1, .int .i64 t365, .int .i64 t366]), (4, .agg #[.int .i64 t367, .int .i64 t368, .int .i64 t369, .int .i64 t370, .int .i64 t371, s_.2.1, .int .i64 t375, .int .i64 t376]), (5, .agg #[.int .i64 t377, .int .i64 t378, .int .i64 t379, .int .i64 t380, .int .i64 t381, s_.2.2.1, .int .i64 t385, .int .i64 t386]), (6, s_.2.2.2)]) (fun s_ w' => (Kd.N k58 58 w' w.heap.size (fun k_ => (w.heap.size ≤ k_) ∧ k_ ≠ gb350) s_.2.2.2 y387) ∧ (w'.heap[gb350]? = some (.cells #[.slice none 0 0, .slice none 0 0, .slice none 0 0] 37 (0, 0))) ∧ (Below w.heap.size w w')) ?_ ?_
         rotate_left
         ·intro hJ2_3_4_5
          refine join_ (σ := Value × Value × Value) 5 (bits 8 7) (fun s_ => [(1, s_.1), (2, s_.2.1), (3, .agg #[.int .i64 t357, .int .i64 t358, .int .i64 t359, .int .i64 t360, .int .i64 t361, s_.2.2, .int .i64 t365, .int .i64 t366])]) (fun s_ w' => (Kd.R (Kd.int .i64) 3 w' w.heap.size (fun k_ => (w.heap.size ≤ k_)) s_.1 y351) ∧ (Kd.R k158 158 w' w.heap.size (fun k_ => (w.heap.size ≤ k_)) s_.2.1 y354) ∧ (Kd.R k120 120 w' w.heap.size (fun k_ => (w.heap.size ≤ k_)) s_.2.2 t362) ∧ (w'.heap[gb350]? = some (.cells #[.slice none 0 0, .slice none 0 0, .slice none 0 0] 37 (0, 0))) ∧ (Below w.heap.size w w')) ?_ ?_
          rotate_left
          ·intro hJ0_1_2
           refine join_ (σ := Value × Value × Value) 5 (bits 8 13) (fun s_ => [(1, s_.1), (3, .agg #[.int .i64 t357, .int .i64 t358, .int .i64 t359, .int .i64 t360, .int .i64 t361, s_.2.1, .int .i64 t365, .int .i64 t366]), (4, .agg #[.int .i64 t367, .int .i64 t368, .int .i64 t369, .int .i64 t370, .int .i64 t371, s_.2.2, .int .i64 t375, .int .i64 t376])]) (fun s_ w' => (Kd.R (Kd.int .i64) 3 w' w.heap.size (fun k_ => (w.heap.size ≤ k_)) s_.1 y351) ∧ (Kd.R k120 120 w' w.heap.size (fun k_ => (w.heap.size ≤ k_) ∧ some k_ ≠ (s_.2.2 : Value).ownBlock) s_.2.1 t362) ∧ (Kd.R k120 120 w' w.heap.size (fun k_ => (w.heap.size ≤ k_) ∧ some k_ ≠ (s_.2.1 : Value).ownBlock) s_.2.2 t372) ∧ (w'.heap[gb350]? = some (.cells #[.slice none 0 0, .slice none 0 0, .slice none 0 0] 37 (0, 0))) ∧ (Below w.heap.size w w')) ?_ ?_
           rotate_left
           ·intro hJ0_2_3
            refine join_ (σ := Value × Value × Value) 5 (bits 8 14) (fun s_ => [(2, s_.1), (3, .agg #[.int .i64 t357, .int .i64 t358, .int .i64 t359, .int .i64 t360, .int .i64 t361, s_.2.1, .int .i64 t365, .int .i64 t366]), (4, .agg #[.int .i64 t367, .int .i64 t368, .int .i64 t369, .int .i64 t370, .int .i64 t371, s_.2.2, .int .i64 t375, .int .i64 t376])]) (fun s_ w' => (Kd.R k158 158 w' w.heap.size (fun k_ => (w.heap.size ≤ k_)) s_.1 y354) ∧ (Kd.R k120 120 w' w.heap.size (fun k_ => (w.heap.size ≤ k_) ∧ some k_ ≠ (s_.2.2 : Value).ownBlock) s_.2.1 t362) ∧ (Kd.R k120 120 w' w.heap.size (fun k_ => (w.heap.size ≤ k_) ∧ some k_ ≠ (s_.2.1 : Value).ownBlock) s_.2.2 t372) ∧ (w'.heap[gb350]? = some (.cells #[.slice none 0 0, .slice none 0 0, .slice none 0 0] 37 (0, 0))) ∧ (Below w.heap.size w w')) ?_ ?_
            rotate_left
            ·intro hJ1_2_3
             refine join_ (σ := Value × Value × Value) 5 (bits 8 28) (fun s_ => [(3, .agg #[.int .i64 t357, .int .i64 t358, .int .i64 t359, .int .i64 t360, .int .i64 t361, s_.1, .int .i64 t365, .int .i64 t366]), (4, .agg #[.int .i64 t367, .int .i64 t368, .int .i64 t369, .int .i64 t370, .int .i64 t371, s_.2.1, .int .i64 t375, .int .i64 t376]), (5, .agg #[.int .i64 t377, .int .i64 t378, .int .i64 t379, .int .i64 t380, .int .i64 t381, s_.2.2, .int .i64 t385, .int .i64 t386])]) (fun s_ w' => (Kd.R k120 120 w' w.heap.size (fun k_ => (w.heap.size ≤ k_) ∧ some k_ ≠ (s_.2.1 : Value).ownBlock ∧ some k_ ≠ (s_.2.2 : Value).ownBlock) s_.1 t362) ∧ (Kd.R k120 120 w' w.heap.size (fun k_ => (w.heap.size ≤ k_) ∧ some k_ ≠ (s_.1 : Value).ownBlock ∧ some k_ ≠ (s_.2.2 : Value).ownBlock) s_.2.1 t372) ∧ (Kd.R k120 120 w' w.heap.size (fun k_ => (w.heap.size ≤ k_) ∧ some k_ ≠ (s_.1 : Value).ownBlock ∧ some k_ ≠ (s_.2.1 : Value).ownBlock) s_.2.2 t382) ∧ (w'.heap[gb350]? = some (.cells #[.slice none 0 0, .slice none 0 0, .slice none 0 0] 37 (0, 0))) ∧ (Below w.heap.size w w')) ?_ ?_
             rotate_left
             ·intro hJ2_3_4
              refine join_ (σ := Value × Value) 6 (bits 8 3) (fun s_ => [(1, s_.1), (2, s_.2)]) (fun s_ w' => (Kd.R (Kd.int .i64) 3 w' w.heap.size (fun k_ => (w.heap.size ≤ k_)) s_.1 y351) ∧ (Kd.R k158 158 w' w.heap.size (fun k_ => (w.heap.size ≤ k_)) s_.2 y354) ∧ (w'.heap[gb350]? = some (.cells #[.slice none 0 0, .slice none 0 0, .slice none 0 0] 37 (0, 0))) ∧ (Below w.heap.size w w')) ?_ ?_
              rotate_left
              ·intro hJ0_1
               refine join_ (σ := Value × Value) 6 (bits 8 5) (fun s_ => [(1, s_.1), (3, .agg #[.int .i64 t357, .int .i64 t358, .int .i64 t359, .int .i64 t360, .int .i64 t361, s_.2, .int .i64 t365, .int .i64 t366])]) (fun s_ w' => (Kd.R (Kd.int .i64) 3 w' w.heap.size (fun k_ => (w.heap.size ≤ k_)) s_.1 y351) ∧ (Kd.R k120 120 w' w.heap.size (fun k_ => (w.heap.size ≤ k_)) s_.2 t362) ∧ (w'.heap[gb350]? = some (.cells #[.slice none 0 0, .slice none 0 0, .slice none 0 0] 37 (0, 0))) ∧ (Below w.heap.size w w')) ?_ ?_
               rotate_left
               ·intro hJ0_2
                refine join_ (σ := Value × Value) 6 (bits 8 6) (fun s_ => [(2, s_.1), (3, .agg #[.int .i64 t357, .int .i64 t358, .int .i64 t359, .int .i64 t360, .int .i64 t361, s_.2, .int .i64 t365, .int .i64 t366])]) (fun s_ w' => (Kd.R k158 158 w' w.heap.size (fun k_ => (w.heap.size ≤ k_)) s_.1 y354) ∧ (Kd.R k120 120 w' w.heap.size (fun k_ => (w.heap.size ≤ k_)) s_.2 t362) ∧ (w'.heap[gb350]? = some (.cells #[.slice none 0 0, .slice none 0 0, .slice none 0 0] 37 (0, 0))) ∧ (Below w.heap.size w w')) ?_ ?_
                rotate_left
                ·intro hJ1_2
                 refine join_ (σ := Value × Value) 6 (bits 8 12) (fun s_ => [(3, .agg #[.int .i64 t357, .int .i64 t358, .int .i64 t359, .int .i64 t360, .int .i64 t361, s_.1, .int .i64 t365, .int .i64 t366]), (4, .agg #[.int .i64 t367, .int .i64 t368, .int .i64 t369, .int .i64 t370, .int .i64 t371, s_.2, .int .i64 t375, .int .i64 t376])]) (fun s_ w' => (Kd.R k120 120 w' w.heap.size (fun k_ => (w.heap.size ≤ k_) ∧ some k_ ≠ (s_.2 : Value).ownBlock) s_.1 t362) ∧ (Kd.R k120 120 w' w.heap.size (fun k_ => (w.heap.size ≤ k_) ∧ some k_ ≠ (s_.1 : Value).ownBlock) s_.2 t372) ∧ (w'.heap[gb350]? = some (.cells #[.slice none 0 0, .slice none 0 0, .slice none 0 0] 37 (0, 0))) ∧ (Below w.heap.size w w')) ?_ ?_
                 rotate_left
                 ·intro hJ2_3
                  refine join_ (σ := Value) 7 (bits 8 1) (fun s_ => [(1, s_)]) (fun s_ w' => (Kd.R (Kd.int .i64) 3 w' w.heap.size (fun k_ => (w.heap.size ≤ k_)) s_ y351) ∧ (w'.heap[gb350]? = some (.cells #[.slice none 0 0, .slice none 0 0, .slice none 0 0] 37 (0, 0))) ∧ (Below w.heap.size w w')) ?_ ?_
                  rotate_left
                  ·intro hJ0
                   refine join_ (σ := Value) 7 (bits 8 2) (fun s_ => [(2, s_)]) (fun s_ w' => (Kd.R k158 158 w' w.heap.size (fun k_ => (w.heap.size ≤ k_)) s_ y354) ∧ (w'.heap[gb350]? = some (.cells #[.slice none 0 0, .slice none 0 0, .slice none 0 0] 37 (0, 0))) ∧ (Below w.heap.size w w')) ?_ ?_
                   rotate_left
                   ·intro hJ1
                    refine join_ (σ := Value) 7 (bits 8 4) (fun s_ => [(3, .agg #[.int .i64 t357, .int .i64 t358, .int .i64 t359, .int .i64 t360, .int .i64 t361, s_, .int .i64 t365, .int .i64 t366])]) (fun s_ w' => (Kd.R k120 120 w' w.heap.size (fun k_ => (w.heap.size ≤ k_)) s_ t362) ∧ (w'.heap[gb350]? = some (.cells #[.slice none 0 0, .slice none 0 0, .slice none 0 0] 37 (0, 0))) ∧ (Below w.heap.size w w')) ?_ ?_
                    rotate_left
                    ·intro hJ2
                     refine three_ (i := 0) (j := 1) (k := 2) (Ni := some 1) (Nj := some 2) (Nk := some 3) (bits 8 1) (bits 8 2) (bits 8 4) rfl rfl rfl rfl rfl rfl (three_of HT_.out (by kernel_rfl)) (by decide) (by decide) (by decide) (fun K hK => ?_) (fun K hK => ?_) (fun K hK => ?_)
                     ·skip
                      refine Kd.R_lit_step (Kd.int .i64) _ 3 ?hg (N := 1) ?hd (xs := ([1, 2, 3, 4] : List Int)) (inner := [.int .i64 1, .int .i64 2, .int .i64 3, .int .i64 4]) (ok := fun _ => True) (okp := fun _ => True) ?hr ?hp (fun _ hk => hk) trivial (Below.refl _ _) (Nat.le_refl _) (by simp) ?_; (case hd => rfl); (case hg => rfl); (case hr => first | (go_simp; done) | (go_simp; rfl)); (case hp => exact (Reps.one (show Kd.M (Kd.int .i64) _ _ _ 1 [.int .i64 1] from rfl) (Reps.one (show Kd.M (Kd.int .i64) _ _ _ 2 [.int .i64 2] from rfl) (Reps.one (show Kd.M (Kd.int .i64) _ _ _ 3 [.int .i64 3] from rfl) (Reps.one (show Kd.M (Kd.int .i64) _ _ _ 4 [.int .i64 4] from rfl) (Reps.none _ _))))))
                      intro v352 w7 ho8 hb hg_ hnew_; clear hg_ hnew_
                      (first | rw [← Ny351.out] at ho8 | (simp only [Int.reduceToNat] at ho8; rw [← Ny351.out] at ho8))
                      have n0_ := Aside0.mk (Kd.R_lower (Kd.R_newM (M := fun k_ => (w.heap.size ≤ k_)) ho8 (below_size (byB1 HB.out GE350.out)) (fun k_ h_ => h_)) (below_size (byB1 HB.out GE350.out))); have n1_ := Aside0.mk (blk_below (g := gb350) (o := .cells #[.slice none 0 0, .slice none 0 0, .slice none 0 0] 37 (0, 0)) (byK BK350.out) hb); have n2_ := Aside0.mk (below_step (byB1 HB.out GE350.out) hb); clear BK350 HB; have HO353 := n0_; have BK350 := n1_; have HB := n2_; clear n0_ n1_ n2_ hb ho8
                      refine hK.out _ _ trivial (fun hHeld => ?_)
                      clear hK K
                      refine norm_ (a' := ?_) ?_ ?_
                      rotate_left
                      ·show Act.put _ (some 1) _ = _
                       simp only [putW]; rfl
                      exact norm_ (by first | (simp only [putAll, Act.put, List.setIfInBounds_toArray, List.set_cons_zero, List.set_cons_succ]; done) | (simp only [putAll, Act.put, List.setIfInBounds_toArray, List.set_cons_zero, List.set_cons_succ]; rfl)) (hJ0 (v352) _ ⟨(by (with_reducible repeat (first | apply Kd.R_alloc | apply Kd.R_drewN | apply Kd.R_drew)); exact Kd.R_mono HO353.out (fun _ hk => hk.1)), (byK BK350.out), (byB1 HB.out GE350.out)⟩)
                     ·skip
                      refine Kd.R_make_step k158 _ 158 (by rfl) (N := 2) rfl 34 _ _ rfl 4 rfl rfl Try.underlying34 (.agg #[(.int .i64 0), (.int .i64 0)]) 16 info158 rfl (by decide) (by omega) z158 (ok := fun _ => True) (okp := fun _ => True) (k158_mkM _ _ _ z158 ) (fun _ hk => hk) trivial (by omega) (by omega) (Below.refl _ _) (Nat.le_refl _) ?_
                      intro v355 w7 ho8 hb hg_ hnew_; clear hg_ hnew_
                      (first | rw [← Ny354.out] at ho8 | (simp only [Int.reduceToNat] at ho8; rw [← Ny354.out] at ho8))
                      have n0_ := Aside0.mk (Kd.R_lower (Kd.R_newM (M := fun k_ => (w.heap.size ≤ k_)) ho8 (below_size (byB1 HB.out GE350.out)) (fun k_ h_ => h_)) (below_size (byB1 HB.out GE350.out))); have n1_ := Aside0.mk (blk_below (g := gb350) (o := .cells #[.slice none 0 0, .slice none 0 0, .slice none 0 0] 37 (0, 0)) (byK BK350.out) hb); have n2_ := Aside0.mk (below_step (byB1 HB.out GE350.out) hb); clear BK350 HB; have HO356 := n0_; have BK350 := n1_; have HB := n2_; clear n0_ n1_ n2_ hb ho8
                      refine hK.out _ _ trivial (fun hHeld => ?_)
                      clear hK K
                      refine norm_ (a' := ?_) ?_ ?_
                      rotate_left
                      ·show Act.put _ (some 2) _ = _
                       simp only [putW]; rfl
                      exact norm_ (by first | (simp only [putAll, Act.put, List.setIfInBounds_toArray, List.set_cons_zero, List.set_cons_succ]; done) | (simp only [putAll, Act.put, List.setIfInBounds_toArray, List.set_cons_zero, List.set_cons_succ]; rfl)) (hJ1 (v355) _ ⟨(by (with_reducible repeat (first | apply Kd.R_alloc | apply Kd.R_drewN | apply Kd.R_drew)); exact Kd.R_mono HO356.out (fun _ hk => hk.1)), (byK BK350.out), (byB1 HB.out GE350.out)⟩)
                     ·skip
                      refine goes_ Try.func46 (by kernel_rfl) rfl #[.int .i64 0, .int .i64 1, .int .i64 1] (by rfl) rfl rfl byL ?_
                      with_reducible refine (mapmakerlaw47_piece.calls 0 1 1 t357 t358 t359 t360 t361 t362 t365 t366 _ A2.out).mono ?_
                      rintro e w7 ⟨v363, rfl, ho0, hb⟩
                      refine ⟨_, rfl, ?_⟩
                      have n0_ := Aside0.mk (Kd.R_lower (Kd.R_newM (M := fun k_ => (w.heap.size ≤ k_)) ho0 (below_size (byB1 HB.out GE350.out)) (fun k_ h_ => h_)) (below_size (byB1 HB.out GE350.out))); have n1_ := Aside0.mk (blk_below (g := gb350) (o := .cells #[.slice none 0 0, .slice none 0 0, .slice none 0 0] 37 (0, 0)) (byK BK350.out) hb); have n2_ := Aside0.mk (below_step (byB1 HB.out GE350.out) hb); clear BK350 HB; have HO364 := n0_; have BK350 := n1_; have HB := n2_; clear n0_ n1_ n2_
                      (try clear hb)
                      (try clear hb2)
                      (try clear hk)
                      (try clear hi)
                      (try clear ho0)
                      refine hK.out _ _ trivial (fun hHeld => ?_)
                      clear hK K
                      refine norm_ (a' := ?_) ?_ ?_
                      rotate_left
                      ·show Act.put _ (some 3) _ = _
                       simp only [putW]; rfl
                      exact norm_ (by first | (simp only [putAll, Act.put, List.setIfInBounds_toArray, List.set_cons_zero, List.set_cons_succ]; done) | (simp only [putAll, Act.put, List.setIfInBounds_toArray, List.set_cons_zero, List.set_cons_succ]; rfl)) (hJ2 (v363) _ ⟨(by (with_reducible repeat (first | apply Kd.R_alloc | apply Kd.R_drewN | apply Kd.R_drew)); exact Kd.R_mono HO364.out (fun _ hk => hk.1)), (byK BK350.out), (byB1 HB.out GE350.out)⟩)
                    ·skip
                     rintro v363 w8 ⟨h0_, h1_, h2_⟩
                     have n0_ : Aside0 (Kd.R k120 120 w8 w.heap.size (fun k_ => (w.heap.size ≤ k_)) v363 t362) := ⟨h0_⟩
                     have n1_ : Aside0 (w8.heap[gb350]? = some (.cells #[.slice none 0 0, .slice none 0 0, .slice none 0 0] 37 (0, 0))) := ⟨h1_⟩
                     have n2_ : Aside0 (Below w.heap.size w w8) := ⟨h2_⟩
                     clear BK350 HB h0_ h1_ h2_; have HO364 := n0_; have BK350 := n1_; have HB := n2_; clear n0_ n1_ n2_; have hHeld := trivial
                     refine norm_ (a' := ?_) ?_ ?_
                     rotate_left
                     ·simp only [putAll, Act.put, List.setIfInBounds_toArray, List.set_cons_zero, List.set_cons_succ]
                      rfl
                     refine three_ (i := 0) (j := 1) (k := 3) (Ni := some 1) (Nj := some 2) (Nk := some 4) (bits 8 5) (bits 8 6) (bits 8 12) rfl rfl rfl rfl rfl rfl (three_of HT_.out (by kernel_rfl)) (by decide) (by decide) (by decide) (fun K hK => ?_) (fun K hK => ?_) (fun K hK => ?_)
                     ·skip
                      refine Kd.R_lit_step (Kd.int .i64) _ 3 ?hg (N := 1) ?hd (xs := ([1, 2, 3, 4] : List Int)) (inner := [.int .i64 1, .int .i64 2, .int .i64 3, .int .i64 4]) (ok := fun _ => True) (okp := fun _ => True) ?hr ?hp (fun _ hk => hk) trivial (Below.refl _ _) (Nat.le_refl _) (by simp) ?_; (case hd => rfl); (case hg => rfl); (case hr => first | (go_simp; done) | (go_simp; rfl)); (case hp => exact (Reps.one (show Kd.M (Kd.int .i64) _ _ _ 1 [.int .i64 1] from rfl) (Reps.one (show Kd.M (Kd.int .i64) _ _ _ 2 [.int .i64 2] from rfl) (Reps.one (show Kd.M (Kd.int .i64) _ _ _ 3 [.int .i64 3] from rfl) (Reps.one (show Kd.M (Kd.int .i64) _ _ _ 4 [.int .i64 4] from rfl) (Reps.none _ _))))))
                      intro v352 w9 ho10 hb hg_ hnew_; clear hg_ hnew_
                      (first | rw [← Ny351.out] at ho10 | (simp only [Int.reduceToNat] at ho10; rw [← Ny351.out] at ho10))
                      have n0_ := Aside0.mk (Kd.R_below (byR HO364.out) hb); have n1_ := Aside0.mk (Kd.R_lower (Kd.R_newM (M := fun k_ => (w.heap.size ≤ k_)) ho10 (below_size (byB1 HB.out GE350.out)) (fun k_ h_ => h_)) (below_size (byB1 HB.out GE350.out))); have n2_ := Aside0.mk (blk_below (g := gb350) (o := .cells #[.slice none 0 0, .slice none 0 0, .slice none 0 0] 37 (0, 0)) (byK BK350.out) hb); have n3_ := Aside0.mk (below_step (byB1 HB.out GE350.out) hb); clear HO364 BK350 HB; have HO364 := n0_; have HO353 := n1_; have BK350 := n2_; have HB := n3_; clear n0_ n1_ n2_ n3_ hb ho10
                      refine hK.out _ _ trivial (fun hHeld => ?_)
                      clear hK K
                      refine norm_ (a' := ?_) ?_ ?_
                      rotate_left
                      ·show Act.put _ (some 1) _ = _
                       simp only [putW]; rfl
                      exact norm_ (by first | (simp only [putAll, Act.put, List.setIfInBounds_toArray, List.set_cons_zero, List.set_cons_succ]; done) | (simp only [putAll, Act.put, List.setIfInBounds_toArray, List.set_cons_zero, List.set_cons_succ]; rfl)) (hJ0_2 (v352, v363) _ ⟨(by (with_reducible repeat (first | apply Kd.R_alloc | apply Kd.R_drewN | apply Kd.R_drew)); exact Kd.R_mono HO353.out (fun _ hk => hk.1)), (byR HO364.out), (byK BK350.out), (byB1 HB.out GE350.out)⟩)
                     ·skip
                      refine Kd.R_make_step k158 _ 158 (by rfl) (N := 2) rfl 34 _ _ rfl 4 rfl rfl Try.underlying34 (.agg #[(.int .i64 0), (.int .i64 0)]) 16 info158 rfl (by decide) (by omega) z158 (ok := fun _ => True) (okp := fun _ => True) (k158_mkM _ _ _ z158 ) (fun _ hk => hk) trivial (by omega) (by omega) (Below.refl _ _) (Nat.le_refl _) ?_
                      intro v355 w9 ho10 hb hg_ hnew_; clear hg_ hnew_
                      (first | rw [← Ny354.out] at ho10 | (simp only [Int.reduceToNat] at ho10; rw [← Ny354.out] at ho10))
                      have n0_ := Aside0.mk (Kd.R_below (byR HO364.out) hb); have n1_ := Aside0.mk (Kd.R_lower (Kd.R_newM (M := fun k_ => (w.heap.size ≤ k_)) ho10 (below_size (byB1 HB.out GE350.out)) (fun k_ h_ => h_)) (below_size (byB1 HB.out GE350.out))); have n2_ := Aside0.mk (blk_below (g := gb350) (o := .cells #[.slice none 0 0, .slice none 0 0, .slice none 0 0] 37 (0, 0)) (byK BK350.out) hb); have n3_ := Aside0.mk (below_step (byB1 HB.out GE350.out) hb); clear HO364 BK350 HB; have HO364 := n0_; have HO356 := n1_; have BK350 := n2_; have HB := n3_; clear n0_ n1_ n2_ n3_ hb ho10
                      refine hK.out _ _ trivial (fun hHeld => ?_)
                      clear hK K
                      refine norm_ (a' := ?_) ?_ ?_
                      rotate_left
                      ·show Act.put _ (some 2) _ = _
                       simp only [putW]; rfl
                      exact norm_ (by first | (simp only [putAll, Act.put, List.setIfInBounds_toArray, List.set_cons_zero, List.set_cons_succ]; done) | (simp only [putAll, Act.put, List.setIfInBounds_toArray, List.set_cons_zero, List.set_cons_succ]; rfl)) (hJ1_2 (v355, v363) _ ⟨(by (with_reducible repeat (first | apply Kd.R_alloc | apply Kd.R_drewN | apply Kd.R_drew)); exact Kd.R_mono HO356.out (fun _ hk => hk.1)), (byR HO364.out), (byK BK350.out), (byB1 HB.out GE350.out)⟩)
                     ·skip
                      refine goes_ Try.func46 (by kernel_rfl) rfl #[.int .i64 1, .int .i64 2, .int .i64 3] (by rfl) rfl rfl byL ?_
                      with_reducible refine (mapmakerlaw47_piece.calls 1 2 3 t367 t368 t369 t370 t371 t372 t375 t376 _ A3.out).mono ?_
                      rintro e w9 ⟨v373, rfl, ho0, hb⟩
                      refine ⟨_, rfl, ?_⟩
                      have n0_ := Aside0.mk (Kd.R_elder' (byR HO364.out) (Kd.R_base ho0) hb); have n1_ := Aside0.mk (Kd.R_lower (Kd.R_new' (Kd.R_newM (M := fun k_ => (w.heap.size ≤ k_)) ho0 (below_size (byB1 HB.out GE350.out)) (fun k_ h_ => h_)) (Kd.R_lt (byR HO364.out))) (below_size (byB1 HB.out GE350.out))); have n2_ := Aside0.mk (blk_below (g := gb350) (o := .cells #[.slice none 0 0, .slice none 0 0, .slice none 0 0] 37 (0, 0)) (byK BK350.out) hb); have n3_ := Aside0.mk (below_step (byB1 HB.out GE350.out) hb); clear HO364 BK350 HB; have HO364 := n0_; have HO374 := n1_; have BK350 := n2_; have HB := n3_; clear n0_ n1_ n2_ n3_
                      (try clear hb)
                      (try clear hb2)
                      (try clear hk)
                      (try clear hi)
                      (try clear ho0)
                      refine hK.out _ _ trivial (fun hHeld => ?_)
                      clear hK K
                      refine norm_ (a' := ?_) ?_ ?_
                      rotate_left
                      ·show Act.put _ (some 4) _ = _
                       simp only [putW]; rfl
                      exact norm_ (by first | (simp only [putAll, Act.put, List.setIfInBounds_toArray, List.set_cons_zero, List.set_cons_succ]; done) | (simp only [putAll, Act.put, List.setIfInBounds_toArray, List.set_cons_zero, List.set_cons_succ]; rfl)) (hJ2_3 (v363, v373) _ ⟨(byR HO364.out), (by (with_reducible repeat (first | apply Kd.R_alloc | apply Kd.R_drewN | apply Kd.R_drew)); exact Kd.R_mono HO374.out (fun _ hk => ⟨hk.1.1, hk.2⟩)), (byK BK350.out), (byB1 HB.out GE350.out)⟩)
                   ·skip
                    rintro v355 w9 ⟨h0_, h1_, h2_⟩
                    have n0_ : Aside0 (Kd.R k158 158 w9 w.heap.size (fun k_ => (w.heap.size ≤ k_)) v355 y354) := ⟨h0_⟩
                    have n1_ : Aside0 (w9.heap[gb350]? = some (.cells #[.slice none 0 0, .slice none 0 0, .slice none 0 0] 37 (0, 0))) := ⟨h1_⟩
                    have n2_ : Aside0 (Below w.heap.size w w9) := ⟨h2_⟩
                    clear BK350 HB h0_ h1_ h2_; have HO356 := n0_; have BK350 := n1_; have HB := n2_; clear n0_ n1_ n2_; have hHeld := trivial
                    refine norm_ (a' := ?_) ?_ ?_
                    rotate_left
                    ·simp only [putAll, Act.put, List.setIfInBounds_toArray, List.set_cons_zero, List.set_cons_succ]
                     rfl
                    refine two_ (i := 0) (j := 2) (Ni := some 1) (Nj := some 3) (bits 8 3) (bits 8 6) rfl rfl rfl rfl (two_of HT_.out (by kernel_rfl)) (by decide) (by decide) (fun K hK => ?_) (fun K hK => ?_)
                    ·skip
                     refine Kd.R_lit_step (Kd.int .i64) _ 3 ?hg (N := 1) ?hd (xs := ([1, 2, 3, 4] : List Int)) (inner := [.int .i64 1, .int .i64 2, .int .i64 3, .int .i64 4]) (ok := fun _ => True) (okp := fun _ => True) ?hr ?hp (fun _ hk => hk) trivial (Below.refl _ _) (Nat.le_refl _) (by simp) ?_; (case hd => rfl); (case hg => rfl); (case hr => first | (go_simp; done) | (go_simp; rfl)); (case hp => exact (Reps.one (show Kd.M (Kd.int .i64) _ _ _ 1 [.int .i64 1] from rfl) (Reps.one (show Kd.M (Kd.int .i64) _ _ _ 2 [.int .i64 2] from rfl) (Reps.one (show Kd.M (Kd.int .i64) _ _ _ 3 [.int .i64 3] from rfl) (Reps.one (show Kd.M (Kd.int .i64) _ _ _ 4 [.int .i64 4] from rfl) (Reps.none _ _))))))
                     intro v352 w10 ho11 hb hg_ hnew_; clear hg_ hnew_
                     (first | rw [← Ny351.out] at ho11 | (simp only [Int.reduceToNat] at ho11; rw [← Ny351.out] at ho11))
                     have n0_ := Aside0.mk (Kd.R_below (byR HO356.out) hb); have n1_ := Aside0.mk (Kd.R_lower (Kd.R_newM (M := fun k_ => (w.heap.size ≤ k_)) ho11 (below_size (byB1 HB.out GE350.out)) (fun k_ h_ => h_)) (below_size (byB1 HB.out GE350.out))); have n2_ := Aside0.mk (blk_below (g := gb350) (o := .cells #[.slice none 0 0, .slice none 0 0, .slice none 0 0] 37 (0, 0)) (byK BK350.out) hb); have n3_ := Aside0.mk (below_step (byB1 HB.out GE350.out) hb); clear HO356 BK350 HB; have HO356 := n0_; have HO353 := n1_; have BK350 := n2_; have HB := n3_; clear n0_ n1_ n2_ n3_ hb ho11
                     refine hK.out _ _ trivial (fun hHeld => ?_)
                     clear hK K
                     refine norm_ (a' := ?_) ?_ ?_
                     rotate_left
                     ·show Act.put _ (some 1) _ = _
                      simp only [putW]; rfl
                     exact norm_ (by first | (simp only [putAll, Act.put, List.setIfInBounds_toArray, List.set_cons_zero, List.set_cons_succ]; done) | (simp only [putAll, Act.put, List.setIfInBounds_toArray, List.set_cons_zero, List.set_cons_succ]; rfl)) (hJ0_1 (v352, v355) _ ⟨(by (with_reducible repeat (first | apply Kd.R_alloc | apply Kd.R_drewN | apply Kd.R_drew)); exact Kd.R_mono HO353.out (fun _ hk => hk.1)), (byR HO356.out), (byK BK350.out), (byB1 HB.out GE350.out)⟩)
                    ·skip
                     refine goes_ Try.func46 (by kernel_rfl) rfl #[.int .i64 0, .int .i64 1, .int .i64 1] (by rfl) rfl rfl byL ?_
                     with_reducible refine (mapmakerlaw47_piece.calls 0 1 1 t357 t358 t359 t360 t361 t362 t365 t366 _ A2.out).mono ?_
                     rintro e w10 ⟨v363, rfl, ho0, hb⟩
                     refine ⟨_, rfl, ?_⟩
                     have n0_ := Aside0.mk (Kd.R_below (byR HO356.out) hb); have n1_ := Aside0.mk (Kd.R_lower (Kd.R_newM (M := fun k_ => (w.heap.size ≤ k_)) ho0 (below_size (byB1 HB.out GE350.out)) (fun k_ h_ => h_)) (below_size (byB1 HB.out GE350.out))); have n2_ := Aside0.mk (blk_below (g := gb350) (o := .cells #[.slice none 0 0, .slice none 0 0, .slice none 0 0] 37 (0, 0)) (byK BK350.out) hb); have n3_ := Aside0.mk (below_step (byB1 HB.out GE350.out) hb); clear HO356 BK350 HB; have HO356 := n0_; have HO364 := n1_; have BK350 := n2_; have HB := n3_; clear n0_ n1_ n2_ n3_
                     (try clear hb)
                     (try clear hb2)
                     (try clear hk)
                     (try clear hi)
                     (try clear ho0)
                     refine hK.out _ _ trivial (fun hHeld => ?_)
                     clear hK K
                     refine norm_ (a' := ?_) ?_ ?_
                     rotate_left
                     ·show Act.put _ (some 3) _ = _
                      simp only [putW]; rfl
                     exact norm_ (by first | (simp only [putAll, Act.put, List.setIfInBounds_toArray, List.set_cons_zero, List.set_cons_succ]; done) | (simp only [putAll, Act.put, List.setIfInBounds_toArray, List.set_cons_zero, List.set_cons_succ]; rfl)) (hJ1_2 (v355, v363) _ ⟨(byR HO356.out), (by (with_reducible repeat (first | apply Kd.R_alloc | apply Kd.R_drewN | apply Kd.R_drew)); exact Kd.R_mono HO364.out (fun _ hk => hk.1)), (byK BK350.out), (byB1 HB.out GE350.out)⟩)
                  ·skip
                   rintro v352 w9 ⟨h0_, h1_, h2_⟩
                   have n0_ : Aside0 (Kd.R (Kd.int .i64) 3 w9 w.heap.size (fun k_ => (w.heap.size ≤ k_)) v352 y351) := ⟨h0_⟩
                   have n1_ : Aside0 (w9.heap[gb350]? = some (.cells #[.slice none 0 0, .slice none 0 0, .slice none 0 0] 37 (0, 0))) := ⟨h1_⟩
                   have n2_ : Aside0 (Below w.heap.size w w9) := ⟨h2_⟩
                   clear BK350 HB h0_ h1_ h2_; have HO353 := n0_; have BK350 := n1_; have HB := n2_; clear n0_ n1_ n2_; have hHeld := trivial
                   refine norm_ (a' := ?_) ?_ ?_
                   rotate_left
                   ·simp only [putAll, Act.put, List.setIfInBounds_toArray, List.set_cons_zero, List.set_cons_succ]
                    rfl
                   refine two_ (i := 1) (j := 2) (Ni := some 2) (Nj := some 3) (bits 8 3) (bits 8 5) rfl rfl rfl rfl (two_of HT_.out (by kernel_rfl)) (by decide) (by decide) (fun K hK => ?_) (fun K hK => ?_)
                   ·skip
                    refine Kd.R_make_step k158 _ 158 (by rfl) (N := 2) rfl 34 _ _ rfl 4 rfl rfl Try.underlying34 (.agg #[(.int .i64 0), (.int .i64 0)]) 16 info158 rfl (by decide) (by omega) z158 (ok := fun _ => True) (okp := fun _ => True) (k158_mkM _ _ _ z158 ) (fun _ hk => hk) trivial (by omega) (by omega) (Below.refl _ _) (Nat.le_refl _) ?_
                    intro v355 w10 ho11 hb hg_ hnew_; clear hg_ hnew_
                    (first | rw [← Ny354.out] at ho11 | (simp only [Int.reduceToNat] at ho11; rw [← Ny354.out] at ho11))
                    have n0_ := Aside0.mk (Kd.R_below (byR HO353.out) hb); have n1_ := Aside0.mk (Kd.R_lower (Kd.R_newM (M := fun k_ => (w.heap.size ≤ k_)) ho11 (below_size (byB1 HB.out GE350.out)) (fun k_ h_ => h_)) (below_size (byB1 HB.out GE350.out))); have n2_ := Aside0.mk (blk_below (g := gb350) (o := .cells #[.slice none 0 0, .slice none 0 0, .slice none 0 0] 37 (0, 0)) (byK BK350.out) hb); have n3_ := Aside0.mk (below_step (byB1 HB.out GE350.out) hb); clear HO353 BK350 HB; have HO353 := n0_; have HO356 := n1_; have BK350 := n2_; have HB := n3_; clear n0_ n1_ n2_ n3_ hb ho11
                    refine hK.out _ _ trivial (fun hHeld => ?_)
                    clear hK K
                    refine norm_ (a' := ?_) ?_ ?_
                    rotate_left
                    ·show Act.put _ (some 2) _ = _
                     simp only [putW]; rfl
                    exact norm_ (by first | (simp only [putAll, Act.put, List.setIfInBounds_toArray, List.set_cons_zero, List.set_cons_succ]; done) | (simp only [putAll, Act.put, List.setIfInBounds_toArray, List.set_cons_zero, List.set_cons_succ]; rfl)) (hJ0_1 (v352, v355) _ ⟨(byR HO353.out), (by (with_reducible repeat (first | apply Kd.R_alloc | apply Kd.R_drewN | apply Kd.R_drew)); exact Kd.R_mono HO356.out (fun _ hk => hk.1)), (byK BK350.out), (byB1 HB.out GE350.out)⟩)
                   ·skip
                    refine goes_ Try.func46 (by kernel_rfl) rfl #[.int .i64 0, .int .i64 1, .int .i64 1] (by rfl) rfl rfl byL ?_
                    with_reducible refine (mapmakerlaw47_piece.calls 0 1 1 t357 t358 t359 t360 t361 t362 t365 t366 _ A2.out).mono ?_
                    rintro e w10 ⟨v363, rfl, ho0, hb⟩
                    refine ⟨_, rfl, ?_⟩
                    have n0_ := Aside0.mk (Kd.R_below (byR HO353.out) hb); have n1_ := Aside0.mk (Kd.R_lower (Kd.R_newM (M := fun k_ => (w.heap.size ≤ k_)) ho0 (below_size (byB1 HB.out GE350.out)) (fun k_ h_ => h_)) (below_size (byB1 HB.out GE350.out))); have n2_ := Aside0.mk (blk_below (g := gb350) (o := .cells #[.slice none 0 0, .slice none 0 0, .slice none 0 0] 37 (0, 0)) (byK BK350.out) hb); have n3_ := Aside0.mk (below_step (byB1 HB.out GE350.out) hb); clear HO353 BK350 HB; have HO353 := n0_; have HO364 := n1_; have BK350 := n2_; have HB := n3_; clear n0_ n1_ n2_ n3_
                    (try clear hb)
                    (try clear hb2)
                    (try clear hk)
                    (try clear hi)
                    (try clear ho0)
                    refine hK.out _ _ trivial (fun hHeld => ?_)
                    clear hK K
                    refine norm_ (a' := ?_) ?_ ?_
                    rotate_left
                    ·show Act.put _ (some 3) _ = _
                     simp only [putW]; rfl
                    exact norm_ (by first | (simp only [putAll, Act.put, List.setIfInBounds_toArray, List.set_cons_zero, List.set_cons_succ]; done) | (simp only [putAll, Act.put, List.setIfInBounds_toArray, List.set_cons_zero, List.set_cons_succ]; rfl)) (hJ0_2 (v352, v363) _ ⟨(byR HO353.out), (by (with_reducible repeat (first | apply Kd.R_alloc | apply Kd.R_drewN | apply Kd.R_drew)); exact Kd.R_mono HO364.out (fun _ hk => hk.1)), (byK BK350.out), (byB1 HB.out GE350.out)⟩)
                 ·skip
                  rintro ⟨v363, v373⟩ w9 ⟨h0_, h1_, h2_, h3_⟩
                  have n0_ : Aside0 (Kd.R k120 120 w9 w.heap.size (fun k_ => (w.heap.size ≤ k_) ∧ some k_ ≠ (v373 : Value).ownBlock) v363 t362) := ⟨h0_⟩
                  have n1_ : Aside0 (Kd.R k120 120 w9 w.heap.size (fun k_ => (w.heap.size ≤ k_) ∧ some k_ ≠ (v363 : Value).ownBlock) v373 t372) := ⟨h1_⟩
                  have n2_ : Aside0 (w9.heap[gb350]? = some (.cells #[.slice none 0 0, .slice none 0 0, .slice none 0 0] 37 (0, 0))) := ⟨h2_⟩
                  have n3_ : Aside0 (Below w.heap.size w w9) := ⟨h3_⟩
                  clear BK350 HB h0_ h1_ h2_ h3_; have HO364 := n0_; have HO374 := n1_; have BK350 := n2_; have HB := n3_; clear n0_ n1_ n2_ n3_; have hHeld := trivial
                  refine norm_ (a' := ?_) ?_ ?_
                  rotate_left
                  ·simp only [putAll, Act.put, List.setIfInBounds_toArray, List.set_cons_zero, List.set_cons_succ]
                   rfl
                  refine three_ (i := 0) (j := 1) (k := 4) (Ni := some 1) (Nj := some 2) (Nk := some 5) (bits 8 13) (bits 8 14) (bits 8 28) rfl rfl rfl rfl rfl rfl (three_of HT_.out (by kernel_rfl)) (by decide) (by decide) (by decide) (fun K hK => ?_) (fun K hK => ?_) (fun K hK => ?_)
                  ·skip
                   refine Kd.R_lit_step (Kd.int .i64) _ 3 ?hg (N := 1) ?hd (xs := ([1, 2, 3, 4] : List Int)) (inner := [.int .i64 1, .int .i64 2, .int .i64 3, .int .i64 4]) (ok := fun _ => True) (okp := fun _ => True) ?hr ?hp (fun _ hk => hk) trivial (Below.refl _ _) (Nat.le_refl _) (by simp) ?_; (case hd => rfl); (case hg => rfl); (case hr => first | (go_simp; done) | (go_simp; rfl)); (case hp => exact (Reps.one (show Kd.M (Kd.int .i64) _ _ _ 1 [.int .i64 1] from rfl) (Reps.one (show Kd.M (Kd.int .i64) _ _ _ 2 [.int .i64 2] from rfl) (Reps.one (show Kd.M (Kd.int .i64) _ _ _ 3 [.int .i64 3] from rfl) (Reps.one (show Kd.M (Kd.int .i64) _ _ _ 4 [.int .i64 4] from rfl) (Reps.none _ _))))))
                   intro v352 w10 ho11 hb hg_ hnew_; clear hg_ hnew_
                   (first | rw [← Ny351.out] at ho11 | (simp only [Int.reduceToNat] at ho11; rw [← Ny351.out] at ho11))
                   have n0_ := Aside0.mk (Kd.R_below (byR HO364.out) hb); have n1_ := Aside0.mk (Kd.R_below (byR HO374.out) hb); have n2_ := Aside0.mk (Kd.R_lower (Kd.R_newM (M := fun k_ => (w.heap.size ≤ k_)) ho11 (below_size (byB1 HB.out GE350.out)) (fun k_ h_ => h_)) (below_size (byB1 HB.out GE350.out))); have n3_ := Aside0.mk (blk_below (g := gb350) (o := .cells #[.slice none 0 0, .slice none 0 0, .slice none 0 0] 37 (0, 0)) (byK BK350.out) hb); have n4_ := Aside0.mk (below_step (byB1 HB.out GE350.out) hb); clear HO364 HO374 BK350 HB; have HO364 := n0_; have HO374 := n1_; have HO353 := n2_; have BK350 := n3_; have HB := n4_; clear n0_ n1_ n2_ n3_ n4_ hb ho11
                   refine hK.out _ _ trivial (fun hHeld => ?_)
                   clear hK K
                   refine norm_ (a' := ?_) ?_ ?_
                   rotate_left
                   ·show Act.put _ (some 1) _ = _
                    simp only [putW]; rfl
                   exact norm_ (by first | (simp only [putAll, Act.put, List.setIfInBounds_toArray, List.set_cons_zero, List.set_cons_succ]; done) | (simp only [putAll, Act.put, List.setIfInBounds_toArray, List.set_cons_zero, List.set_cons_succ]; rfl)) (hJ0_2_3 (v352, v363, v373) _ ⟨(by (with_reducible repeat (first | apply Kd.R_alloc | apply Kd.R_drewN | apply Kd.R_drew)); exact Kd.R_mono HO353.out (fun _ hk => hk.1)), (byR HO364.out), (byR HO374.out), (byK BK350.out), (byB1 HB.out GE350.out)⟩)
                  ·skip
                   refine Kd.R_make_step k158 _ 158 (by rfl) (N := 2) rfl 34 _ _ rfl 4 rfl rfl Try.underlying34 (.agg #[(.int .i64 0), (.int .i64 0)]) 16 info158 rfl (by decide) (by omega) z158 (ok := fun _ => True) (okp := fun _ => True) (k158_mkM _ _ _ z158 ) (fun _ hk => hk) trivial (by omega) (by omega) (Below.refl _ _) (Nat.le_refl _) ?_
                   intro v355 w10 ho11 hb hg_ hnew_; clear hg_ hnew_
                   (first | rw [← Ny354.out] at ho11 | (simp only [Int.reduceToNat] at ho11; rw [← Ny354.out] at ho11))
                   have n0_ := Aside0.mk (Kd.R_below (byR HO364.out) hb); have n1_ := Aside0.mk (Kd.R_below (byR HO374.out) hb); have n2_ := Aside0.mk (Kd.R_lower (Kd.R_newM (M := fun k_ => (w.heap.size ≤ k_)) ho11 (below_size (byB1 HB.out GE350.out)) (fun k_ h_ => h_)) (below_size (byB1 HB.out GE350.out))); have n3_ := Aside0.mk (blk_below (g := gb350) (o := .cells #[.slice none 0 0, .slice none 0 0, .slice none 0 0] 37 (0, 0)) (byK BK350.out) hb); have n4_ := Aside0.mk (below_step (byB1 HB.out GE350.out) hb); clear HO364 HO374 BK350 HB; have HO364 := n0_; have HO374 := n1_; have HO356 := n2_; have BK350 := n3_; have HB := n4_; clear n0_ n1_ n2_ n3_ n4_ hb ho11
                   refine hK.out _ _ trivial (fun hHeld => ?_)
                   clear hK K
                   refine norm_ (a' := ?_) ?_ ?_
                   rotate_left
                   ·show Act.put _ (some 2) _ = _
                    simp only [putW]; rfl
                   exact norm_ (by first | (simp only [putAll, Act.put, List.setIfInBounds_toArray, List.set_cons_zero, List.set_cons_succ]; done) | (simp only [putAll, Act.put, List.setIfInBounds_toArray, List.set_cons_zero, List.set_cons_succ]; rfl)) (hJ1_2_3 (v355, v363, v373) _ ⟨(by (with_reducible repeat (first | apply Kd.R_alloc | apply Kd.R_drewN | apply Kd.R_drew)); exact Kd.R_mono HO356.out (fun _ hk => hk.1)), (byR HO364.out), (byR HO374.out), (byK BK350.out), (byB1 HB.out GE350.out)⟩)
                  ·skip
                   refine goes_ Try.func46 (by kernel_rfl) rfl #[.int .i64 1, .int .i64 3, .int .i64 4] (by rfl) rfl rfl byL ?_
                   with_reducible refine (mapmakerlaw47_piece.calls 1 3 4 t377 t378 t379 t380 t381 t382 t385 t386 _ A4.out).mono ?_
                   rintro e w10 ⟨v383, rfl, ho0, hb⟩
                   refine ⟨_, rfl, ?_⟩
                   have n0_ := Aside0.mk (Kd.R_elder' (byR HO364.out) (Kd.R_base ho0) hb); have n1_ := Aside0.mk (Kd.R_elder' (byR HO374.out) (Kd.R_base ho0) hb); have n2_ := Aside0.mk (Kd.R_lower (Kd.R_new' (Kd.R_new' (Kd.R_newM (M := fun k_ => (w.heap.size ≤ k_)) ho0 (below_size (byB1 HB.out GE350.out)) (fun k_ h_ => h_)) (Kd.R_lt (byR HO364.out))) (Kd.R_lt (byR HO374.out))) (below_size (byB1 HB.out GE350.out))); have n3_ := Aside0.mk (blk_below (g := gb350) (o := .cells #[.slice none 0 0, .slice none 0 0, .slice none 0 0] 37 (0, 0)) (byK BK350.out) hb); have n4_ := Aside0.mk (below_step (byB1 HB.out GE350.out) hb); clear HO364 HO374 BK350 HB; have HO364 := n0_; have HO374 := n1_; have HO384 := n2_; have BK350 := n3_; have HB := n4_; clear n0_ n1_ n2_ n3_ n4_
                   (try clear hb)
                   (try clear hb2)
                   (try clear hk)
                   (try clear hi)
                   (try clear ho0)
                   refine hK.out _ _ trivial (fun hHeld => ?_)
                   clear hK K
                   refine norm_ (a' := ?_) ?_ ?_
                   rotate_left
                   ·show Act.put _ (some 5) _ = _
                    simp only [putW]; rfl
                   exact norm_ (by first | (simp only [putAll, Act.put, List.setIfInBounds_toArray, List.set_cons_zero, List.set_cons_succ]; done) | (simp only [putAll, Act.put, List.setIfInBounds_toArray, List.set_cons_zero, List.set_cons_succ]; rfl)) (hJ2_3_4 (v363, v373, v383) _ ⟨(by (with_reducible repeat (first | apply Kd.R_alloc | apply Kd.R_drewN | apply Kd.R_drew)); exact Kd.R_mono HO364.out (fun _ hk => ⟨hk.1.1, ⟨hk.1.2, hk.2⟩⟩)), (by (with_reducible repeat (first | apply Kd.R_alloc | apply Kd.R_drewN | apply Kd.R_drew)); exact Kd.R_mono HO374.out (fun _ hk => ⟨hk.1.1, ⟨hk.1.2, hk.2⟩⟩)), (by (with_reducible repeat (first | apply Kd.R_alloc | apply Kd.R_drewN | apply Kd.R_drew)); exact Kd.R_mono HO384.out (fun _ hk => ⟨hk.1.1.1, ⟨hk.1.2, hk.2⟩⟩)), (byK BK350.out), (byB1 HB.out GE350.out)⟩)
                ·skip
                 rintro ⟨v355, v363⟩ w10 ⟨h0_, h1_, h2_, h3_⟩
                 have n0_ : Aside0 (Kd.R k158 158 w10 w.heap.size (fun k_ => (w.heap.size ≤ k_)) v355 y354) := ⟨h0_⟩
                 have n1_ : Aside0 (Kd.R k120 120 w10 w.heap.size (fun k_ => (w.heap.size ≤ k_)) v363 t362) := ⟨h1_⟩
                 have n2_ : Aside0 (w10.heap[gb350]? = some (.cells #[.slice none 0 0, .slice none 0 0, .slice none 0 0] 37 (0, 0))) := ⟨h2_⟩
                 have n3_ : Aside0 (Below w.heap.size w w10) := ⟨h3_⟩
                 clear BK350 HB h0_ h1_ h2_ h3_; have HO356 := n0_; have HO364 := n1_; have BK350 := n2_; have HB := n3_; clear n0_ n1_ n2_ n3_; have hHeld := trivial
                 refine norm_ (a' := ?_) ?_ ?_
                 rotate_left
                 ·simp only [putAll, Act.put, List.setIfInBounds_toArray, List.set_cons_zero, List.set_cons_succ]
                  rfl
                 refine two_ (i := 0) (j := 3) (Ni := some 1) (Nj := some 4) (bits 8 7) (bits 8 14) rfl rfl rfl rfl (two_of HT_.out (by kernel_rfl)) (by decide) (by decide) (fun K hK => ?_) (fun K hK => ?_)
                 ·skip
                  refine Kd.R_lit_step (Kd.int .i64) _ 3 ?hg (N := 1) ?hd (xs := ([1, 2, 3, 4] : List Int)) (inner := [.int .i64 1, .int .i64 2, .int .i64 3, .int .i64 4]) (ok := fun _ => True) (okp := fun _ => True) ?hr ?hp (fun _ hk => hk) trivial (Below.refl _ _) (Nat.le_refl _) (by simp) ?_; (case hd => rfl); (case hg => rfl); (case hr => first | (go_simp; done) | (go_simp; rfl)); (case hp => exact (Reps.one (show Kd.M (Kd.int .i64) _ _ _ 1 [.int .i64 1] from rfl) (Reps.one (show Kd.M (Kd.int .i64) _ _ _ 2 [.int .i64 2] from rfl) (Reps.one (show Kd.M (Kd.int .i64) _ _ _ 3 [.int .i64 3] from rfl) (Reps.one (show Kd.M (Kd.int .i64) _ _ _ 4 [.int .i64 4] from rfl) (Reps.none _ _))))))
                  intro v352 w11 ho12 hb hg_ hnew_; clear hg_ hnew_
                  (first | rw [← Ny351.out] at ho12 | (simp only [Int.reduceToNat] at ho12; rw [← Ny351.out] at ho12))
                  have n0_ := Aside0.mk (Kd.R_below (byR HO356.out) hb); have n1_ := Aside0.mk (Kd.R_below (byR HO364.out) hb); have n2_ := Aside0.mk (Kd.R_lower (Kd.R_newM (M := fun k_ => (w.heap.size ≤ k_)) ho12 (below_size (byB1 HB.out GE350.out)) (fun k_ h_ => h_)) (below_size (byB1 HB.out GE350.out))); have n3_ := Aside0.mk (blk_below (g := gb350) (o := .cells #[.slice none 0 0, .slice none 0 0, .slice none 0 0] 37 (0, 0)) (byK BK350.out) hb); have n4_ := Aside0.mk (below_step (byB1 HB.out GE350.out) hb); clear HO356 HO364 BK350 HB; have HO356 := n0_; have HO364 := n1_; have HO353 := n2_; have BK350 := n3_; have HB := n4_; clear n0_ n1_ n2_ n3_ n4_ hb ho12
                  refine hK.out _ _ trivial (fun hHeld => ?_)
                  clear hK K
                  refine norm_ (a' := ?_) ?_ ?_
                  rotate_left
                  ·show Act.put _ (some 1) _ = _
                   simp only [putW]; rfl
                  exact norm_ (by first | (simp only [putAll, Act.put, List.setIfInBounds_toArray, List.set_cons_zero, List.set_cons_succ]; done) | (simp only [putAll, Act.put, List.setIfInBounds_toArray, List.set_cons_zero, List.set_cons_succ]; rfl)) (hJ0_1_2 (v352, v355, v363) _ ⟨(by (with_reducible repeat (first | apply Kd.R_alloc | apply Kd.R_drewN | apply Kd.R_drew)); exact Kd.R_mono HO353.out (fun _ hk => hk.1)), (byR HO356.out), (byR HO364.out), (byK BK350.out), (byB1 HB.out GE350.out)⟩)
                 ·skip
                  refine goes_ Try.func46 (by kernel_rfl) rfl #[.int .i64 1, .int .i64 2, .int .i64 3] (by rfl) rfl rfl byL ?_
                  with_reducible refine (mapmakerlaw47_piece.calls 1 2 3 t367 t368 t369 t370 t371 t372 t375 t376 _ A3.out).mono ?_
                  rintro e w11 ⟨v373, rfl, ho0, hb⟩
                  refine ⟨_, rfl, ?_⟩
                  have n0_ := Aside0.mk (Kd.R_below (byR HO356.out) hb); have n1_ := Aside0.mk (Kd.R_elder' (byR HO364.out) (Kd.R_base ho0) hb); have n2_ := Aside0.mk (Kd.R_lower (Kd.R_new' (Kd.R_newM (M := fun k_ => (w.heap.size ≤ k_)) ho0 (below_size (byB1 HB.out GE350.out)) (fun k_ h_ => h_)) (Kd.R_lt (byR HO364.out))) (below_size (byB1 HB.out GE350.out))); have n3_ := Aside0.mk (blk_below (g := gb350) (o := .cells #[.slice none 0 0, .slice none 0 0, .slice none 0 0] 37 (0, 0)) (byK BK350.out) hb); have n4_ := Aside0.mk (below_step (byB1 HB.out GE350.out) hb); clear HO356 HO364 BK350 HB; have HO356 := n0_; have HO364 := n1_; have HO374 := n2_; have BK350 := n3_; have HB := n4_; clear n0_ n1_ n2_ n3_ n4_
                  (try clear hb)
                  (try clear hb2)
                  (try clear hk)
                  (try clear hi)
                  (try clear ho0)
                  refine hK.out _ _ trivial (fun hHeld => ?_)
                  clear hK K
                  refine norm_ (a' := ?_) ?_ ?_
                  rotate_left
                  ·show Act.put _ (some 4) _ = _
                   simp only [putW]; rfl
                  exact norm_ (by first | (simp only [putAll, Act.put, List.setIfInBounds_toArray, List.set_cons_zero, List.set_cons_succ]; done) | (simp only [putAll, Act.put, List.setIfInBounds_toArray, List.set_cons_zero, List.set_cons_succ]; rfl)) (hJ1_2_3 (v355, v363, v373) _ ⟨(byR HO356.out), (byR HO364.out), (by (with_reducible repeat (first | apply Kd.R_alloc | apply Kd.R_drewN | apply Kd.R_drew)); exact Kd.R_mono HO374.out (fun _ hk => ⟨hk.1.1, hk.2⟩)), (byK BK350.out), (byB1 HB.out GE350.out)⟩)
               ·skip
                rintro ⟨v352, v363⟩ w10 ⟨h0_, h1_, h2_, h3_⟩
                have n0_ : Aside0 (Kd.R (Kd.int .i64) 3 w10 w.heap.size (fun k_ => (w.heap.size ≤ k_)) v352 y351) := ⟨h0_⟩
                have n1_ : Aside0 (Kd.R k120 120 w10 w.heap.size (fun k_ => (w.heap.size ≤ k_)) v363 t362) := ⟨h1_⟩
                have n2_ : Aside0 (w10.heap[gb350]? = some (.cells #[.slice none 0 0, .slice none 0 0, .slice none 0 0] 37 (0, 0))) := ⟨h2_⟩
                have n3_ : Aside0 (Below w.heap.size w w10) := ⟨h3_⟩
                clear BK350 HB h0_ h1_ h2_ h3_; have HO353 := n0_; have HO364 := n1_; have BK350 := n2_; have HB := n3_; clear n0_ n1_ n2_ n3_; have hHeld := trivial
                refine norm_ (a' := ?_) ?_ ?_
                rotate_left
                ·simp only [putAll, Act.put, List.setIfInBounds_toArray, List.set_cons_zero, List.set_cons_succ]
                 rfl
                refine two_ (i := 1) (j := 3) (Ni := some 2) (Nj := some 4) (bits 8 7) (bits 8 13) rfl rfl rfl rfl (two_of HT_.out (by kernel_rfl)) (by decide) (by decide) (fun K hK => ?_) (fun K hK => ?_)
                ·skip
                 refine Kd.R_make_step k158 _ 158 (by rfl) (N := 2) rfl 34 _ _ rfl 4 rfl rfl Try.underlying34 (.agg #[(.int .i64 0), (.int .i64 0)]) 16 info158 rfl (by decide) (by omega) z158 (ok := fun _ => True) (okp := fun _ => True) (k158_mkM _ _ _ z158 ) (fun _ hk => hk) trivial (by omega) (by omega) (Below.refl _ _) (Nat.le_refl _) ?_
                 intro v355 w11 ho12 hb hg_ hnew_; clear hg_ hnew_
                 (first | rw [← Ny354.out] at ho12 | (simp only [Int.reduceToNat] at ho12; rw [← Ny354.out] at ho12))
                 have n0_ := Aside0.mk (Kd.R_below (byR HO353.out) hb); have n1_ := Aside0.mk (Kd.R_below (byR HO364.out) hb); have n2_ := Aside0.mk (Kd.R_lower (Kd.R_newM (M := fun k_ => (w.heap.size ≤ k_)) ho12 (below_size (byB1 HB.out GE350.out)) (fun k_ h_ => h_)) (below_size (byB1 HB.out GE350.out))); have n3_ := Aside0.mk (blk_below (g := gb350) (o := .cells #[.slice none 0 0, .slice none 0 0, .slice none 0 0] 37 (0, 0)) (byK BK350.out) hb); have n4_ := Aside0.mk (below_step (byB1 HB.out GE350.out) hb); clear HO353 HO364 BK350 HB; have HO353 := n0_; have HO364 := n1_; have HO356 := n2_; have BK350 := n3_; have HB := n4_; clear n0_ n1_ n2_ n3_ n4_ hb ho12
                 refine hK.out _ _ trivial (fun hHeld => ?_)
                 clear hK K
                 refine norm_ (a' := ?_) ?_ ?_
                 rotate_left
                 ·show Act.put _ (some 2) _ = _
                  simp only [putW]; rfl
                 exact norm_ (by first | (simp only [putAll, Act.put, List.setIfInBounds_toArray, List.set_cons_zero, List.set_cons_succ]; done) | (simp only [putAll, Act.put, List.setIfInBounds_toArray, List.set_cons_zero, List.set_cons_succ]; rfl)) (hJ0_1_2 (v352, v355, v363) _ ⟨(byR HO353.out), (by (with_reducible repeat (first | apply Kd.R_alloc | apply Kd.R_drewN | apply Kd.R_drew)); exact Kd.R_mono HO356.out (fun _ hk => hk.1)), (byR HO364.out), (byK BK350.out), (byB1 HB.out GE350.out)⟩)
                ·skip
                 refine goes_ Try.func46 (by kernel_rfl) rfl #[.int .i64 1, .int .i64 2, .int .i64 3] (by rfl) rfl rfl byL ?_
                 with_reducible refine (mapmakerlaw47_piece.calls 1 2 3 t367 t368 t369 t370 t371 t372 t375 t376 _ A3.out).mono ?_
                 rintro e w11 ⟨v373, rfl, ho0, hb⟩
                 refine ⟨_, rfl, ?_⟩
                 have n0_ := Aside0.mk (Kd.R_below (byR HO353.out) hb); have n1_ := Aside0.mk (Kd.R_elder' (byR HO364.out) (Kd.R_base ho0) hb); have n2_ := Aside0.mk (Kd.R_lower (Kd.R_new' (Kd.R_newM (M := fun k_ => (w.heap.size ≤ k_)) ho0 (below_size (byB1 HB.out GE350.out)) (fun k_ h_ => h_)) (Kd.R_lt (byR HO364.out))) (below_size (byB1 HB.out GE350.out))); have n3_ := Aside0.mk (blk_below (g := gb350) (o := .cells #[.slice none 0 0, .slice none 0 0, .slice none 0 0] 37 (0, 0)) (byK BK350.out) hb); have n4_ := Aside0.mk (below_step (byB1 HB.out GE350.out) hb); clear HO353 HO364 BK350 HB; have HO353 := n0_; have HO364 := n1_; have HO374 := n2_; have BK350 := n3_; have HB := n4_; clear n0_ n1_ n2_ n3_ n4_
                 (try clear hb)
                 (try clear hb2)
                 (try clear hk)
                 (try clear hi)
                 (try clear ho0)
                 refine hK.out _ _ trivial (fun hHeld => ?_)
                 clear hK K
                 refine norm_ (a' := ?_) ?_ ?_
                 rotate_left
                 ·show Act.put _ (some 4) _ = _
                  simp only [putW]; rfl
                 exact norm_ (by first | (simp only [putAll, Act.put, List.setIfInBounds_toArray, List.set_cons_zero, List.set_cons_succ]; done) | (simp only [putAll, Act.put, List.setIfInBounds_toArray, List.set_cons_zero, List.set_cons_succ]; rfl)) (hJ0_2_3 (v352, v363, v373) _ ⟨(byR HO353.out), (byR HO364.out), (by (with_reducible repeat (first | apply Kd.R_alloc | apply Kd.R_drewN | apply Kd.R_drew)); exact Kd.R_mono HO374.out (fun _ hk => ⟨hk.1.1, hk.2⟩)), (byK BK350.out), (byB1 HB.out GE350.out)⟩)
              ·skip
               rintro ⟨v352, v355⟩ w11 ⟨h0_, h1_, h2_, h3_⟩
               have n0_ : Aside0 (Kd.R (Kd.int .i64) 3 w11 w.heap.size (fun k_ => (w.heap.size ≤ k_)) v352 y351) := ⟨h0_⟩
               have n1_ : Aside0 (Kd.R k158 158 w11 w.heap.size (fun k_ => (w.heap.size ≤ k_)) v355 y354) := ⟨h1_⟩
               have n2_ : Aside0 (w11.heap[gb350]? = some (.cells #[.slice none 0 0, .slice none 0 0, .slice none 0 0] 37 (0, 0))) := ⟨h2_⟩
               have n3_ : Aside0 (Below w.heap.size w w11) := ⟨h3_⟩
               clear BK350 HB h0_ h1_ h2_ h3_; have HO353 := n0_; have HO356 := n1_; have BK350 := n2_; have HB := n3_; clear n0_ n1_ n2_ n3_; have hHeld := trivial
               refine norm_ (a' := ?_) ?_ ?_
               rotate_left
               ·simp only [putAll, Act.put, List.setIfInBounds_toArray, List.set_cons_zero, List.set_cons_succ]
                rfl
               refine one_ (i := 2) (N := some 3) (bits 8 7) rfl rfl (one_of HT_.out (by kernel_rfl)) (by decide) (fun K hK => ?_)
               refine goes_ Try.func46 (by kernel_rfl) rfl #[.int .i64 0, .int .i64 1, .int .i64 1] (by rfl) rfl rfl byL ?_
               with_reducible refine (mapmakerlaw47_piece.calls 0 1 1 t357 t358 t359 t360 t361 t362 t365 t366 _ A2.out).mono ?_
               rintro e w12 ⟨v363, rfl, ho0, hb⟩
               refine ⟨_, rfl, ?_⟩
               have n0_ := Aside0.mk (Kd.R_below (byR HO353.out) hb); have n1_ := Aside0.mk (Kd.R_below (byR HO356.out) hb); have n2_ := Aside0.mk (Kd.R_lower (Kd.R_newM (M := fun k_ => (w.heap.size ≤ k_)) ho0 (below_size (byB1 HB.out GE350.out)) (fun k_ h_ => h_)) (below_size (byB1 HB.out GE350.out))); have n3_ := Aside0.mk (blk_below (g := gb350) (o := .cells #[.slice none 0 0, .slice none 0 0, .slice none 0 0] 37 (0, 0)) (byK BK350.out) hb); have n4_ := Aside0.mk (below_step (byB1 HB.out GE350.out) hb); clear HO353 HO356 BK350 HB; have HO353 := n0_; have HO356 := n1_; have HO364 := n2_; have BK350 := n3_; have HB := n4_; clear n0_ n1_ n2_ n3_ n4_
               (try clear hb)
               (try clear hb2)
               (try clear hk)
               (try clear hi)
               (try clear ho0)
               refine hK.out _ _ trivial (fun hHeld => ?_)
               clear hK K
               refine norm_ (a' := ?_) ?_ ?_
               rotate_left
               ·show Act.put _ (some 3) _ = _
                simp only [putW]; rfl
               exact norm_ (by first | (simp only [putAll, Act.put, List.setIfInBounds_toArray, List.set_cons_zero, List.set_cons_succ]; done) | (simp only [putAll, Act.put, List.setIfInBounds_toArray, List.set_cons_zero, List.set_cons_succ]; rfl)) (hJ0_1_2 (v352, v355, v363) _ ⟨(byR HO353.out), (byR HO356.out), (by (with_reducible repeat (first | apply Kd.R_alloc | apply Kd.R_drewN | apply Kd.R_drew)); exact Kd.R_mono HO364.out (fun _ hk => hk.1)), (byK BK350.out), (byB1 HB.out GE350.out)⟩)
             ·skip
              rintro ⟨v363, v373, v383⟩ w10 ⟨h0_, h1_, h2_, h3_, h4_⟩
              have n0_ : Aside0 (Kd.R k120 120 w10 w.heap.size (fun k_ => (w.heap.size ≤ k_) ∧ some k_ ≠ (v373 : Value).ownBlock ∧ some k_ ≠ (v383 : Value).ownBlock) v363 t362) := ⟨h0_⟩
              have n1_ : Aside0 (Kd.R k120 120 w10 w.heap.size (fun k_ => (w.heap.size ≤ k_) ∧ some k_ ≠ (v363 : Value).ownBlock ∧ some k_ ≠ (v383 : Value).ownBlock) v373 t372) := ⟨h1_⟩
              have n2_ : Aside0 (Kd.R k120 120 w10 w.heap.size (fun k_ => (w.heap.size ≤ k_) ∧ some k_ ≠ (v363 : Value).ownBlock ∧ some k_ ≠ (v373 : Value).ownBlock) v383 t382) := ⟨h2_⟩
              have n3_ : Aside0 (w10.heap[gb350]? = some (.cells #[.slice none 0 0, .slice none 0 0, .slice none 0 0] 37 (0, 0))) := ⟨h3_⟩
              have n4_ : Aside0 (Below w.heap.size w w10) := ⟨h4_⟩
              clear BK350 HB h0_ h1_ h2_ h3_ h4_; have HO364 := n0_; have HO374 := n1_; have HO384 := n2_; have BK350 := n3_; have HB := n4_; clear n0_ n1_ n2_ n3_ n4_; have hHeld := trivial
              refine norm_ (a' := ?_) ?_ ?_
              rotate_left
              ·simp only [putAll, Act.put, List.setIfInBounds_toArray, List.set_cons_zero, List.set_cons_succ]
               rfl
              refine three_ (i := 0) (j := 1) (k := 5) (Ni := some 1) (Nj := some 2) (Nk := some 6) (bits 8 29) (bits 8 30) (bits 8 60) rfl rfl rfl rfl rfl rfl (three_of HT_.out (by kernel_rfl)) (by decide) (by decide) (by decide) (fun K hK => ?_) (fun K hK => ?_) (fun K hK => ?_)
              ·skip
               refine Kd.R_lit_step (Kd.int .i64) _ 3 ?hg (N := 1) ?hd (xs := ([1, 2, 3, 4] : List Int)) (inner := [.int .i64 1, .int .i64 2, .int .i64 3, .int .i64 4]) (ok := fun _ => True) (okp := fun _ => True) ?hr ?hp (fun _ hk => hk) trivial (Below.refl _ _) (Nat.le_refl _) (by simp) ?_; (case hd => rfl); (case hg => rfl); (case hr => first | (go_simp; done) | (go_simp; rfl)); (case hp => exact (Reps.one (show Kd.M (Kd.int .i64) _ _ _ 1 [.int .i64 1] from rfl) (Reps.one (show Kd.M (Kd.int .i64) _ _ _ 2 [.int .i64 2] from rfl) (Reps.one (show Kd.M (Kd.int .i64) _ _ _ 3 [.int .i64 3] from rfl) (Reps.one (show Kd.M (Kd.int .i64) _ _ _ 4 [.int .i64 4] from rfl) (Reps.none _ _))))))
               intro v352 w11 ho12 hb hg_ hnew_; clear hg_ hnew_
               (first | rw [← Ny351.out] at ho12 | (simp only [Int.reduceToNat] at ho12; rw [← Ny351.out] at ho12))
               have n0_ := Aside0.mk (Kd.R_below (byR HO364.out) hb); have n1_ := Aside0.mk (Kd.R_below (byR HO374.out) hb); have n2_ := Aside0.mk (Kd.R_below (byR HO384.out) hb); have n3_ := Aside0.mk (Kd.R_lower (Kd.R_newM (M := fun k_ => (w.heap.size ≤ k_)) ho12 (below_size (byB1 HB.out GE350.out)) (fun k_ h_ => h_)) (below_size (byB1 HB.out GE350.out))); have n4_ := Aside0.mk (blk_below (g := gb350) (o := .cells #[.slice none 0 0, .slice none 0 0, .slice none 0 0] 37 (0, 0)) (byK BK350.out) hb); have n5_ := Aside0.mk (below_step (byB1 HB.out GE350.out) hb); clear HO364 HO374 HO384 BK350 HB; have HO364 := n0_; have HO374 := n1_; have HO384 := n2_; have HO353 := n3_; have BK350 := n4_; have HB := n5_; clear n0_ n1_ n2_ n3_ n4_ n5_ hb ho12
               refine hK.out _ _ trivial (fun hHeld => ?_)
               clear hK K
               refine norm_ (a' := ?_) ?_ ?_
               rotate_left
               ·show Act.put _ (some 1) _ = _
                simp only [putW]; rfl
               exact norm_ (by first | (simp only [putAll, Act.put, List.setIfInBounds_toArray, List.set_cons_zero, List.set_cons_succ]; done) | (simp only [putAll, Act.put, List.setIfInBounds_toArray, List.set_cons_zero, List.set_cons_succ]; rfl)) (hJ0_2_3_4 (v352, v363, v373, v383) _ ⟨(by (with_reducible repeat (first | apply Kd.R_alloc | apply Kd.R_drewN | apply Kd.R_drew)); exact Kd.R_mono HO353.out (fun _ hk => hk.1)), (byR HO364.out), (byR HO374.out), (byR HO384.out), (byK BK350.out), (byB1 HB.out GE350.out)⟩)
              ·skip
               refine Kd.R_make_step k158 _ 158 (by rfl) (N := 2) rfl 34 _ _ rfl 4 rfl rfl Try.underlying34 (.agg #[(.int .i64 0), (.int .i64 0)]) 16 info158 rfl (by decide) (by omega) z158 (ok := fun _ => True) (okp := fun _ => True) (k158_mkM _ _ _ z158 ) (fun _ hk => hk) trivial (by omega) (by omega) (Below.refl _ _) (Nat.le_refl _) ?_
               intro v355 w11 ho12 hb hg_ hnew_; clear hg_ hnew_
               (first | rw [← Ny354.out] at ho12 | (simp only [Int.reduceToNat] at ho12; rw [← Ny354.out] at ho12))
               have n0_ := Aside0.mk (Kd.R_below (byR HO364.out) hb); have n1_ := Aside0.mk (Kd.R_below (byR HO374.out) hb); have n2_ := Aside0.mk (Kd.R_below (byR HO384.out) hb); have n3_ := Aside0.mk (Kd.R_lower (Kd.R_newM (M := fun k_ => (w.heap.size ≤ k_)) ho12 (below_size (byB1 HB.out GE350.out)) (fun k_ h_ => h_)) (below_size (byB1 HB.out GE350.out))); have n4_ := Aside0.mk (blk_below (g := gb350) (o := .cells #[.slice none 0 0, .slice none 0 0, .slice none 0 0] 37 (0, 0)) (byK BK350.out) hb); have n5_ := Aside0.mk (below_step (byB1 HB.out GE350.out) hb); clear HO364 HO374 HO384 BK350 HB; have HO364 := n0_; have HO374 := n1_; have HO384 := n2_; have HO356 := n3_; have BK350 := n4_; have HB := n5_; clear n0_ n1_ n2_ n3_ n4_ n5_ hb ho12
               refine hK.out _ _ trivial (fun hHeld => ?_)
               clear hK K
               refine norm_ (a' := ?_) ?_ ?_
               rotate_left
               ·show Act.put _ (some 2) _ = _
                simp only [putW]; rfl
               exact norm_ (by first | (simp only [putAll, Act.put, List.setIfInBounds_toArray, List.set_cons_zero, List.set_cons_succ]; done) | (simp only [putAll, Act.put, List.setIfInBounds_toArray, List.set_cons_zero, List.set_cons_succ]; rfl)) (hJ1_2_3_4 (v355, v363, v373, v383) _ ⟨(by (with_reducible repeat (first | apply Kd.R_alloc | apply Kd.R_drewN | apply Kd.R_drew)); exact Kd.R_mono HO356.out (fun _ hk => hk.1)), (byR HO364.out), (byR HO374.out), (byR HO384.out), (byK BK350.out), (byB1 HB.out GE350.out)⟩)
              ·skip
               try (obtain ⟨Ao11, co11, eo11⟩ := Kd.R_slice HO364.out; subst eo11)
               try (obtain ⟨Ao12, co12, eo12⟩ := Kd.R_slice HO374.out; subst eo12)
               try (obtain ⟨Ao13, co13, eo13⟩ := Kd.R_slice HO384.out; subst eo13)
               refine Kd.N_lit_step k58 _ 58 ?hg (N' := 6) ?hd (xs := ([(⟨t357, t358, t359, t360, t361, (⟨t362, t365, t366⟩ : S56)⟩ : S58), (⟨t367, t368, t369, t370, t371, (⟨t372, t375, t376⟩ : S56)⟩ : S58), (⟨t377, t378, t379, t380, t381, (⟨t382, t385, t386⟩ : S56)⟩ : S58)] : List (S58))) (inner := [.int .i64 t357, .int .i64 t358, .int .i64 t359, .int .i64 t360, .int .i64 t361, .slice Ao11 t362.length co11, .int .i64 t365, .int .i64 t366, .int .i64 t367, .int .i64 t368, .int .i64 t369, .int .i64 t370, .int .i64 t371, .slice Ao12 t372.length co12, .int .i64 t375, .int .i64 t376, .int .i64 t377, .int .i64 t378, .int .i64 t379, .int .i64 t380, .int .i64 t381, .slice Ao13 t382.length co13, .int .i64 t385, .int .i64 t386]) (ok := (fun k_ => (w.heap.size ≤ k_) ∧ k_ ≠ gb350)) (okp := (fun k_ => (w.heap.size ≤ k_) ∧ k_ ≠ gb350)) ?hr ?hp (fun _ hk => hk) ((show ∀ k_, w10.heap.size ≤ k_ → (fun k_ => (w.heap.size ≤ k_) ∧ k_ ≠ gb350) k_ from fun k_ hk => ⟨(Nat.le_trans (below_size (byB1 HB.out GE350.out)) hk), Kd.freshB (g := gb350) (o := .cells #[.slice none 0 0, .slice none 0 0, .slice none 0 0] 37 (0, 0)) (byK BK350.out) k_ hk⟩) _ (Nat.le_refl _)) (Below.refl _ _) (Nat.le_refl _) (by simp) ?_; (case hd => rfl); (case hg => rfl); (case hr => first | (go_simp; done) | (go_simp; rfl)); (case hp => exact (Reps.c8 (show Kd.FK k58 _ _ (⟨t357, t358, t359, t360, t361, (⟨t362, t365, t366⟩ : S56)⟩ : S58) [.int .i64 t357, .int .i64 t358, .int .i64 t359, .int .i64 t360, .int .i64 t361, .slice Ao11 t362.length co11, .int .i64 t365, .int .i64 t366] from (k58_mkF _ _ (⟨t357, t358, t359, t360, t361, (⟨t362, t365, t366⟩ : S56)⟩ : S58) (Kd.R_reads' (Kd.R_mono (ok' := (fun k_ => (w.heap.size ≤ k_) ∧ k_ ≠ gb350)) (Kd.R_types (HO364.out) BK350.out (by decide)) (fun k_ hk => ⟨hk.1.1, hk.2⟩))).2.1 (Kd.R_F (Kd.R_mono (ok' := (fun k_ => (w.heap.size ≤ k_) ∧ k_ ≠ gb350)) (Kd.R_types (HO364.out) BK350.out (by decide)) (fun k_ hk => ⟨hk.1.1, hk.2⟩))))) (Reps.c8 (show Kd.FK k58 _ _ (⟨t367, t368, t369, t370, t371, (⟨t372, t375, t376⟩ : S56)⟩ : S58) [.int .i64 t367, .int .i64 t368, .int .i64 t369, .int .i64 t370, .int .i64 t371, .slice Ao12 t372.length co12, .int .i64 t375, .int .i64 t376] from (k58_mkF _ _ (⟨t367, t368, t369, t370, t371, (⟨t372, t375, t376⟩ : S56)⟩ : S58) (Kd.R_reads' (Kd.R_mono (ok' := (fun k_ => (w.heap.size ≤ k_) ∧ k_ ≠ gb350)) (Kd.R_types (HO374.out) BK350.out (by decide)) (fun k_ hk => ⟨hk.1.1, hk.2⟩))).2.1 (Kd.R_F (Kd.R_mono (ok' := (fun k_ => (w.heap.size ≤ k_) ∧ k_ ≠ gb350)) (Kd.R_types (HO374.out) BK350.out (by decide)) (fun k_ hk => ⟨hk.1.1, hk.2⟩))))) (Reps.c8 (show Kd.FK k58 _ _ (⟨t377, t378, t379, t380, t381, (⟨t382, t385, t386⟩ : S56)⟩ : S58) [.int .i64 t377, .int .i64 t378, .int .i64 t379, .int .i64 t380, .int .i64 t381, .slice Ao13 t382.length co13, .int .i64 t385, .int .i64 t386] from (k58_mkF _ _ (⟨t377, t378, t379, t380, t381, (⟨t382, t385, t386⟩ : S56)⟩ : S58) (Kd.R_reads' (Kd.R_mono (ok' := (fun k_ => (w.heap.size ≤ k_) ∧ k_ ≠ gb350)) (Kd.R_types (HO384.out) BK350.out (by decide)) (fun k_ hk => ⟨hk.1.1, hk.2⟩))).2.1 (Kd.R_F (Kd.R_mono (ok' := (fun k_ => (w.heap.size ≤ k_) ∧ k_ ≠ gb350)) (Kd.R_types (HO384.out) BK350.out (by decide)) (fun k_ hk => ⟨hk.1.1, hk.2⟩))))) (Reps.none _ _)))))
               intro v388 w14 ho15 hb hg_ hnew_; clear hg_ hnew_
               (first | rw [← Ny387.out] at ho15 | (simp only [Int.reduceToNat] at ho15; rw [← Ny387.out] at ho15))
               have n0_ := Aside0.mk (Kd.N_lower ho15 (below_size (byB1 HB.out GE350.out))); have n1_ := Aside0.mk (blk_below (g := gb350) (o := .cells #[.slice none 0 0, .slice none 0 0, .slice none 0 0] 37 (0, 0)) (byK BK350.out) hb); have n2_ := Aside0.mk (below_step (byB1 HB.out GE350.out) hb); clear BK350 HB HO364 HO374 HO384; have HO389 := n0_; have BK350 := n1_; have HB := n2_; clear n0_ n1_ n2_ hb ho15
               refine hK.out _ _ trivial (fun hHeld => ?_)
               clear hK K
               refine norm_ (a' := ?_) ?_ ?_
               rotate_left
               ·show Act.put _ (some 6) _ = _
                simp only [putW]; rfl
               exact norm_ (by first | (simp only [putAll, Act.put, List.setIfInBounds_toArray, List.set_cons_zero, List.set_cons_succ]; done) | (simp only [putAll, Act.put, List.setIfInBounds_toArray, List.set_cons_zero, List.set_cons_succ]; rfl)) (hJ2_3_4_5 (.slice Ao11 t362.length co11, .slice Ao12 t372.length co12, .slice Ao13 t382.length co13, v388) _ ⟨(byN HO389.out), (byK BK350.out), (byB1 HB.out GE350.out)⟩)
            ·skip
             rintro ⟨v355, v363, v373⟩ w11 ⟨h0_, h1_, h2_, h3_, h4_⟩
             have n0_ : Aside0 (Kd.R k158 158 w11 w.heap.size (fun k_ => (w.heap.size ≤ k_)) v355 y354) := ⟨h0_⟩
             have n1_ : Aside0 (Kd.R k120 120 w11 w.heap.size (fun k_ => (w.heap.size ≤ k_) ∧ some k_ ≠ (v373 : Value).ownBlock) v363 t362) := ⟨h1_⟩
             have n2_ : Aside0 (Kd.R k120 120 w11 w.heap.size (fun k_ => (w.heap.size ≤ k_) ∧ some k_ ≠ (v363 : Value).ownBlock) v373 t372) := ⟨h2_⟩
             have n3_ : Aside0 (w11.heap[gb350]? = some (.cells #[.slice none 0 0, .slice none 0 0, .slice none 0 0] 37 (0, 0))) := ⟨h3_⟩
             have n4_ : Aside0 (Below w.heap.size w w11) := ⟨h4_⟩
             clear BK350 HB h0_ h1_ h2_ h3_ h4_; have HO356 := n0_; have HO364 := n1_; have HO374 := n2_; have BK350 := n3_; have HB := n4_; clear n0_ n1_ n2_ n3_ n4_; have hHeld := trivial
             refine norm_ (a' := ?_) ?_ ?_
             rotate_left
             ·simp only [putAll, Act.put, List.setIfInBounds_toArray, List.set_cons_zero, List.set_cons_succ]
              rfl
             refine two_ (i := 0) (j := 4) (Ni := some 1) (Nj := some 5) (bits 8 15) (bits 8 30) rfl rfl rfl rfl (two_of HT_.out (by kernel_rfl)) (by decide) (by decide) (fun K hK => ?_) (fun K hK => ?_)
             ·skip
              refine Kd.R_lit_step (Kd.int .i64) _ 3 ?hg (N := 1) ?hd (xs := ([1, 2, 3, 4] : List Int)) (inner := [.int .i64 1, .int .i64 2, .int .i64 3, .int .i64 4]) (ok := fun _ => True) (okp := fun _ => True) ?hr ?hp (fun _ hk => hk) trivial (Below.refl _ _) (Nat.le_refl _) (by simp) ?_; (case hd => rfl); (case hg => rfl); (case hr => first | (go_simp; done) | (go_simp; rfl)); (case hp => exact (Reps.one (show Kd.M (Kd.int .i64) _ _ _ 1 [.int .i64 1] from rfl) (Reps.one (show Kd.M (Kd.int .i64) _ _ _ 2 [.int .i64 2] from rfl) (Reps.one (show Kd.M (Kd.int .i64) _ _ _ 3 [.int .i64 3] from rfl) (Reps.one (show Kd.M (Kd.int .i64) _ _ _ 4 [.int .i64 4] from rfl) (Reps.none _ _))))))
              intro v352 w12 ho13 hb hg_ hnew_; clear hg_ hnew_
              (first | rw [← Ny351.out] at ho13 | (simp only [Int.reduceToNat] at ho13; rw [← Ny351.out] at ho13))
              have n0_ := Aside0.mk (Kd.R_below (byR HO356.out) hb); have n1_ := Aside0.mk (Kd.R_below (byR HO364.out) hb); have n2_ := Aside0.mk (Kd.R_below (byR HO374.out) hb); have n3_ := Aside0.mk (Kd.R_lower (Kd.R_newM (M := fun k_ => (w.heap.size ≤ k_)) ho13 (below_size (byB1 HB.out GE350.out)) (fun k_ h_ => h_)) (below_size (byB1 HB.out GE350.out))); have n4_ := Aside0.mk (blk_below (g := gb350) (o := .cells #[.slice none 0 0, .slice none 0 0, .slice none 0 0] 37 (0, 0)) (byK BK350.out) hb); have n5_ := Aside0.mk (below_step (byB1 HB.out GE350.out) hb); clear HO356 HO364 HO374 BK350 HB; have HO356 := n0_; have HO364 := n1_; have HO374 := n2_; have HO353 := n3_; have BK350 := n4_; have HB := n5_; clear n0_ n1_ n2_ n3_ n4_ n5_ hb ho13
              refine hK.out _ _ trivial (fun hHeld => ?_)
              clear hK K
              refine norm_ (a' := ?_) ?_ ?_
              rotate_left
              ·show Act.put _ (some 1) _ = _
               simp only [putW]; rfl
              exact norm_ (by first | (simp only [putAll, Act.put, List.setIfInBounds_toArray, List.set_cons_zero, List.set_cons_succ]; done) | (simp only [putAll, Act.put, List.setIfInBounds_toArray, List.set_cons_zero, List.set_cons_succ]; rfl)) (hJ0_1_2_3 (v352, v355, v363, v373) _ ⟨(by (with_reducible repeat (first | apply Kd.R_alloc | apply Kd.R_drewN | apply Kd.R_drew)); exact Kd.R_mono HO353.out (fun _ hk => hk.1)), (byR HO356.out), (byR HO364.out), (byR HO374.out), (byK BK350.out), (byB1 HB.out GE350.out)⟩)
             ·skip
              refine goes_ Try.func46 (by kernel_rfl) rfl #[.int .i64 1, .int .i64 3, .int .i64 4] (by rfl) rfl rfl byL ?_
              with_reducible refine (mapmakerlaw47_piece.calls 1 3 4 t377 t378 t379 t380 t381 t382 t385 t386 _ A4.out).mono ?_
              rintro e w12 ⟨v383, rfl, ho0, hb⟩
              refine ⟨_, rfl, ?_⟩
              have n0_ := Aside0.mk (Kd.R_below (byR HO356.out) hb); have n1_ := Aside0.mk (Kd.R_elder' (byR HO364.out) (Kd.R_base ho0) hb); have n2_ := Aside0.mk (Kd.R_elder' (byR HO374.out) (Kd.R_base ho0) hb); have n3_ := Aside0.mk (Kd.R_lower (Kd.R_new' (Kd.R_new' (Kd.R_newM (M := fun k_ => (w.heap.size ≤ k_)) ho0 (below_size (byB1 HB.out GE350.out)) (fun k_ h_ => h_)) (Kd.R_lt (byR HO364.out))) (Kd.R_lt (byR HO374.out))) (below_size (byB1 HB.out GE350.out))); have n4_ := Aside0.mk (blk_below (g := gb350) (o := .cells #[.slice none 0 0, .slice none 0 0, .slice none 0 0] 37 (0, 0)) (byK BK350.out) hb); have n5_ := Aside0.mk (below_step (byB1 HB.out GE350.out) hb); clear HO356 HO364 HO374 BK350 HB; have HO356 := n0_; have HO364 := n1_; have HO374 := n2_; have HO384 := n3_; have BK350 := n4_; have HB := n5_; clear n0_ n1_ n2_ n3_ n4_ n5_
              (try clear hb)
              (try clear hb2)
              (try clear hk)
              (try clear hi)
              (try clear ho0)
              refine hK.out _ _ trivial (fun hHeld => ?_)
              clear hK K
              refine norm_ (a' := ?_) ?_ ?_
              rotate_left
              ·show Act.put _ (some 5) _ = _
               simp only [putW]; rfl
              exact norm_ (by first | (simp only [putAll, Act.put, List.setIfInBounds_toArray, List.set_cons_zero, List.set_cons_succ]; done) | (simp only [putAll, Act.put, List.setIfInBounds_toArray, List.set_cons_zero, List.set_cons_succ]; rfl)) (hJ1_2_3_4 (v355, v363, v373, v383) _ ⟨(byR HO356.out), (by (with_reducible repeat (first | apply Kd.R_alloc | apply Kd.R_drewN | apply Kd.R_drew)); exact Kd.R_mono HO364.out (fun _ hk => ⟨hk.1.1, ⟨hk.1.2, hk.2⟩⟩)), (by (with_reducible repeat (first | apply Kd.R_alloc | apply Kd.R_drewN | apply Kd.R_drew)); exact Kd.R_mono HO374.out (fun _ hk => ⟨hk.1.1, ⟨hk.1.2, hk.2⟩⟩)), (by (with_reducible repeat (first | apply Kd.R_alloc | apply Kd.R_drewN | apply Kd.R_drew)); exact Kd.R_mono HO384.out (fun _ hk => ⟨hk.1.1.1, ⟨hk.1.2, hk.2⟩⟩)), (byK BK350.out), (byB1 HB.out GE350.out)⟩)
           ·skip
            rintro ⟨v352, v363, v373⟩ w11 ⟨h0_, h1_, h2_, h3_, h4_⟩
            have n0_ : Aside0 (Kd.R (Kd.int .i64) 3 w11 w.heap.size (fun k_ => (w.heap.size ≤ k_)) v352 y351) := ⟨h0_⟩
            have n1_ : Aside0 (Kd.R k120 120 w11 w.heap.size (fun k_ => (w.heap.size ≤ k_) ∧ some k_ ≠ (v373 : Value).ownBlock) v363 t362) := ⟨h1_⟩
            have n2_ : Aside0 (Kd.R k120 120 w11 w.heap.size (fun k_ => (w.heap.size ≤ k_) ∧ some k_ ≠ (v363 : Value).ownBlock) v373 t372) := ⟨h2_⟩
            have n3_ : Aside0 (w11.heap[gb350]? = some (.cells #[.slice none 0 0, .slice none 0 0, .slice none 0 0] 37 (0, 0))) := ⟨h3_⟩
            have n4_ : Aside0 (Below w.heap.size w w11) := ⟨h4_⟩
            clear BK350 HB h0_ h1_ h2_ h3_ h4_; have HO353 := n0_; have HO364 := n1_; have HO374 := n2_; have BK350 := n3_; have HB := n4_; clear n0_ n1_ n2_ n3_ n4_; have hHeld := trivial
            refine norm_ (a' := ?_) ?_ ?_
            rotate_left
            ·simp only [putAll, Act.put, List.setIfInBounds_toArray, List.set_cons_zero, List.set_cons_succ]
             rfl
            refine two_ (i := 1) (j := 4) (Ni := some 2) (Nj := some 5) (bits 8 15) (bits 8 29) rfl rfl rfl rfl (two_of HT_.out (by kernel_rfl)) (by decide) (by decide) (fun K hK => ?_) (fun K hK => ?_)
            ·skip
             refine Kd.R_make_step k158 _ 158 (by rfl) (N := 2) rfl 34 _ _ rfl 4 rfl rfl Try.underlying34 (.agg #[(.int .i64 0), (.int .i64 0)]) 16 info158 rfl (by decide) (by omega) z158 (ok := fun _ => True) (okp := fun _ => True) (k158_mkM _ _ _ z158 ) (fun _ hk => hk) trivial (by omega) (by omega) (Below.refl _ _) (Nat.le_refl _) ?_
             intro v355 w12 ho13 hb hg_ hnew_; clear hg_ hnew_
             (first | rw [← Ny354.out] at ho13 | (simp only [Int.reduceToNat] at ho13; rw [← Ny354.out] at ho13))
             have n0_ := Aside0.mk (Kd.R_below (byR HO353.out) hb); have n1_ := Aside0.mk (Kd.R_below (byR HO364.out) hb); have n2_ := Aside0.mk (Kd.R_below (byR HO374.out) hb); have n3_ := Aside0.mk (Kd.R_lower (Kd.R_newM (M := fun k_ => (w.heap.size ≤ k_)) ho13 (below_size (byB1 HB.out GE350.out)) (fun k_ h_ => h_)) (below_size (byB1 HB.out GE350.out))); have n4_ := Aside0.mk (blk_below (g := gb350) (o := .cells #[.slice none 0 0, .slice none 0 0, .slice none 0 0] 37 (0, 0)) (byK BK350.out) hb); have n5_ := Aside0.mk (below_step (byB1 HB.out GE350.out) hb); clear HO353 HO364 HO374 BK350 HB; have HO353 := n0_; have HO364 := n1_; have HO374 := n2_; have HO356 := n3_; have BK350 := n4_; have HB := n5_; clear n0_ n1_ n2_ n3_ n4_ n5_ hb ho13
             refine hK.out _ _ trivial (fun hHeld => ?_)
             clear hK K
             refine norm_ (a' := ?_) ?_ ?_
             rotate_left
             ·show Act.put _ (some 2) _ = _
              simp only [putW]; rfl
             exact norm_ (by first | (simp only [putAll, Act.put, List.setIfInBounds_toArray, List.set_cons_zero, List.set_cons_succ]; done) | (simp only [putAll, Act.put, List.setIfInBounds_toArray, List.set_cons_zero, List.set_cons_succ]; rfl)) (hJ0_1_2_3 (v352, v355, v363, v373) _ ⟨(byR HO353.out), (by (with_reducible repeat (first | apply Kd.R_alloc | apply Kd.R_drewN | apply Kd.R_drew)); exact Kd.R_mono HO356.out (fun _ hk => hk.1)), (byR HO364.out), (byR HO374.out), (byK BK350.out), (byB1 HB.out GE350.out)⟩)
            ·skip
             refine goes_ Try.func46 (by kernel_rfl) rfl #[.int .i64 1, .int .i64 3, .int .i64 4] (by rfl) rfl rfl byL ?_
             with_reducible refine (mapmakerlaw47_piece.calls 1 3 4 t377 t378 t379 t380 t381 t382 t385 t386 _ A4.out).mono ?_
             rintro e w12 ⟨v383, rfl, ho0, hb⟩
             refine ⟨_, rfl, ?_⟩
             have n0_ := Aside0.mk (Kd.R_below (byR HO353.out) hb); have n1_ := Aside0.mk (Kd.R_elder' (byR HO364.out) (Kd.R_base ho0) hb); have n2_ := Aside0.mk (Kd.R_elder' (byR HO374.out) (Kd.R_base ho0) hb); have n3_ := Aside0.mk (Kd.R_lower (Kd.R_new' (Kd.R_new' (Kd.R_newM (M := fun k_ => (w.heap.size ≤ k_)) ho0 (below_size (byB1 HB.out GE350.out)) (fun k_ h_ => h_)) (Kd.R_lt (byR HO364.out))) (Kd.R_lt (byR HO374.out))) (below_size (byB1 HB.out GE350.out))); have n4_ := Aside0.mk (blk_below (g := gb350) (o := .cells #[.slice none 0 0, .slice none 0 0, .slice none 0 0] 37 (0, 0)) (byK BK350.out) hb); have n5_ := Aside0.mk (below_step (byB1 HB.out GE350.out) hb); clear HO353 HO364 HO374 BK350 HB; have HO353 := n0_; have HO364 := n1_; have HO374 := n2_; have HO384 := n3_; have BK350 := n4_; have HB := n5_; clear n0_ n1_ n2_ n3_ n4_ n5_
             (try clear hb)
             (try clear hb2)
             (try clear hk)
             (try clear hi)
             (try clear ho0)
             refine hK.out _ _ trivial (fun hHeld => ?_)
             clear hK K
             refine norm_ (a' := ?_) ?_ ?_
             rotate_left
             ·show Act.put _ (some 5) _ = _
              simp only [putW]; rfl
             exact norm_ (by first | (simp only [putAll, Act.put, List.setIfInBounds_toArray, List.set_cons_zero, List.set_cons_succ]; done) | (simp only [putAll, Act.put, List.setIfInBounds_toArray, List.set_cons_zero, List.set_cons_succ]; rfl)) (hJ0_2_3_4 (v352, v363, v373, v383) _ ⟨(byR HO353.out), (by (with_reducible repeat (first | apply Kd.R_alloc | apply Kd.R_drewN | apply Kd.R_drew)); exact Kd.R_mono HO364.out (fun _ hk => ⟨hk.1.1, ⟨hk.1.2, hk.2⟩⟩)), (by (with_reducible repeat (first | apply Kd.R_alloc | apply Kd.R_drewN | apply Kd.R_drew)); exact Kd.R_mono HO374.out (fun _ hk => ⟨hk.1.1, ⟨hk.1.2, hk.2⟩⟩)), (by (with_reducible repeat (first | apply Kd.R_alloc | apply Kd.R_drewN | apply Kd.R_drew)); exact Kd.R_mono HO384.out (fun _ hk => ⟨hk.1.1.1, ⟨hk.1.2, hk.2⟩⟩)), (byK BK350.out), (byB1 HB.out GE350.out)⟩)
          ·skip
           rintro ⟨v352, v355, v363⟩ w12 ⟨h0_, h1_, h2_, h3_, h4_⟩
           have n0_ : Aside0 (Kd.R (Kd.int .i64) 3 w12 w.heap.size (fun k_ => (w.heap.size ≤ k_)) v352 y351) := ⟨h0_⟩
           have n1_ : Aside0 (Kd.R k158 158 w12 w.heap.size (fun k_ => (w.heap.size ≤ k_)) v355 y354) := ⟨h1_⟩
           have n2_ : Aside0 (Kd.R k120 120 w12 w.heap.size (fun k_ => (w.heap.size ≤ k_)) v363 t362) := ⟨h2_⟩
           have n3_ : Aside0 (w12.heap[gb350]? = some (.cells #[.slice none 0 0, .slice none 0 0, .slice none 0 0] 37 (0, 0))) := ⟨h3_⟩
           have n4_ : Aside0 (Below w.heap.size w w12) := ⟨h4_⟩
           clear BK350 HB h0_ h1_ h2_ h3_ h4_; have HO353 := n0_; have HO356 := n1_; have HO364 := n2_; have BK350 := n3_; have HB := n4_; clear n0_ n1_ n2_ n3_ n4_; have hHeld := trivial
           refine norm_ (a' := ?_) ?_ ?_
           rotate_left
           ·simp only [putAll, Act.put, List.setIfInBounds_toArray, List.set_cons_zero, List.set_cons_succ]
            rfl
           refine one_ (i := 3) (N := some 4) (bits 8 15) rfl rfl (one_of HT_.out (by kernel_rfl)) (by decide) (fun K hK => ?_)
           refine goes_ Try.func46 (by kernel_rfl) rfl #[.int .i64 1, .int .i64 2, .int .i64 3] (by rfl) rfl rfl byL ?_
           with_reducible refine (mapmakerlaw47_piece.calls 1 2 3 t367 t368 t369 t370 t371 t372 t375 t376 _ A3.out).mono ?_
           rintro e w13 ⟨v373, rfl, ho0, hb⟩
           refine ⟨_, rfl, ?_⟩
           have n0_ := Aside0.mk (Kd.R_below (byR HO353.out) hb); have n1_ := Aside0.mk (Kd.R_below (byR HO356.out) hb); have n2_ := Aside0.mk (Kd.R_elder' (byR HO364.out) (Kd.R_base ho0) hb); have n3_ := Aside0.mk (Kd.R_lower (Kd.R_new' (Kd.R_newM (M := fun k_ => (w.heap.size ≤ k_)) ho0 (below_size (byB1 HB.out GE350.out)) (fun k_ h_ => h_)) (Kd.R_lt (byR HO364.out))) (below_size (byB1 HB.out GE350.out))); have n4_ := Aside0.mk (blk_below (g := gb350) (o := .cells #[.slice none 0 0, .slice none 0 0, .slice none 0 0] 37 (0, 0)) (byK BK350.out) hb); have n5_ := Aside0.mk (below_step (byB1 HB.out GE350.out) hb); clear HO353 HO356 HO364 BK350 HB; have HO353 := n0_; have HO356 := n1_; have HO364 := n2_; have HO374 := n3_; have BK350 := n4_; have HB := n5_; clear n0_ n1_ n2_ n3_ n4_ n5_
           (try clear hb)
           (try clear hb2)
           (try clear hk)
           (try clear hi)
           (try clear ho0)
           refine hK.out _ _ trivial (fun hHeld => ?_)
           clear hK K
           refine norm_ (a' := ?_) ?_ ?_
           rotate_left
           ·show Act.put _ (some 4) _ = _
            simp only [putW]; rfl
           exact norm_ (by first | (simp only [putAll, Act.put, List.setIfInBounds_toArray, List.set_cons_zero, List.set_cons_succ]; done) | (simp only [putAll, Act.put, List.setIfInBounds_toArray, List.set_cons_zero, List.set_cons_succ]; rfl)) (hJ0_1_2_3 (v352, v355, v363, v373) _ ⟨(byR HO353.out), (byR HO356.out), (byR HO364.out), (by (with_reducible repeat (first | apply Kd.R_alloc | apply Kd.R_drewN | apply Kd.R_drew)); exact Kd.R_mono HO374.out (fun _ hk => ⟨hk.1.1, hk.2⟩)), (byK BK350.out), (byB1 HB.out GE350.out)⟩)
         ·skip
          rintro ⟨v363, v373, v383, v388⟩ w15 ⟨h0_, h1_, h2_⟩
          have n0_ : Aside0 (Kd.N k58 58 w15 w.heap.size (fun k_ => (w.heap.size ≤ k_) ∧ k_ ≠ gb350) v388 y387) := ⟨h0_⟩
          have n1_ : Aside0 (w15.heap[gb350]? = some (.cells #[.slice none 0 0, .slice none 0 0, .slice none 0 0] 37 (0, 0))) := ⟨h1_⟩
          have n2_ : Aside0 (Below w.heap.size w w15) := ⟨h2_⟩
          clear BK350 HB h0_ h1_ h2_; have HO389 := n0_; have BK350 := n1_; have HB := n2_; clear n0_ n1_ n2_; have hHeld := trivial
          refine norm_ (a' := ?_) ?_ ?_
          rotate_left
          ·simp only [putAll, Act.put, List.setIfInBounds_toArray, List.set_cons_zero, List.set_cons_succ]
           rfl
          refine two_ (i := 0) (j := 1) (Ni := some 1) (Nj := some 2) (bits 8 61) (bits 8 62) rfl rfl rfl rfl (two_of HT_.out (by kernel_rfl)) (by decide) (by decide) (fun K hK => ?_) (fun K hK => ?_)
          ·skip
           refine Kd.R_lit_step (Kd.int .i64) _ 3 ?hg (N := 1) ?hd (xs := ([1, 2, 3, 4] : List Int)) (inner := [.int .i64 1, .int .i64 2, .int .i64 3, .int .i64 4]) (ok := fun _ => True) (okp := fun _ => True) ?hr ?hp (fun _ hk => hk) trivial (Below.refl _ _) (Nat.le_refl _) (by simp) ?_; (case hd => rfl); (case hg => rfl); (case hr => first | (go_simp; done) | (go_simp; rfl)); (case hp => exact (Reps.one (show Kd.M (Kd.int .i64) _ _ _ 1 [.int .i64 1] from rfl) (Reps.one (show Kd.M (Kd.int .i64) _ _ _ 2 [.int .i64 2] from rfl) (Reps.one (show Kd.M (Kd.int .i64) _ _ _ 3 [.int .i64 3] from rfl) (Reps.one (show Kd.M (Kd.int .i64) _ _ _ 4 [.int .i64 4] from rfl) (Reps.none _ _))))))
           intro v352 w16 ho17 hb hg_ hnew_; clear hg_ hnew_
           (first | rw [← Ny351.out] at ho17 | (simp only [Int.reduceToNat] at ho17; rw [← Ny351.out] at ho17))
           have n0_ := Aside0.mk (Kd.N_elder' (byN HO389.out) (Kd.R_base ho17) hb); have n1_ := Aside0.mk (Kd.R_lower (Kd.R_newM (M := fun k_ => (w.heap.size ≤ k_)) ho17 (below_size (byB1 HB.out GE350.out)) (fun k_ h_ => h_)) (below_size (byB1 HB.out GE350.out))); have n2_ := Aside0.mk (blk_below (g := gb350) (o := .cells #[.slice none 0 0, .slice none 0 0, .slice none 0 0] 37 (0, 0)) (byK BK350.out) hb); have n3_ := Aside0.mk (below_step (byB1 HB.out GE350.out) hb); clear HO389 BK350 HB; have HO389 := n0_; have HO353 := n1_; have BK350 := n2_; have HB := n3_; clear n0_ n1_ n2_ n3_ hb ho17
           refine hK.out _ _ trivial (fun hHeld => ?_)
           clear hK K
           refine norm_ (a' := ?_) ?_ ?_
           rotate_left
           ·show Act.put _ (some 1) _ = _
            simp only [putW]; rfl
           exact norm_ (by first | (simp only [putAll, Act.put, List.setIfInBounds_toArray, List.set_cons_zero, List.set_cons_succ]; done) | (simp only [putAll, Act.put, List.setIfInBounds_toArray, List.set_cons_zero, List.set_cons_succ]; rfl)) (hJ0_2_3_4_5 (v352, v363, v373, v383, v388) _ ⟨(by (with_reducible repeat (first | apply Kd.R_alloc | apply Kd.R_drewN | apply Kd.R_drew)); exact Kd.R_mono HO353.out (fun _ hk => hk.1)), (by (with_reducible repeat (first | apply Kd.N_alloc | apply Kd.N_drewN | apply Kd.N_drew)); exact Kd.N_mono HO389.out (fun _ hk => ⟨hk.1.1, ⟨hk.2, hk.1.2⟩⟩)), (byK BK350.out), (byB1 HB.out GE350.out)⟩)
          ·skip
           refine Kd.R_make_step k158 _ 158 (by rfl) (N := 2) rfl 34 _ _ rfl 4 rfl rfl Try.underlying34 (.agg #[(.int .i64 0), (.int .i64 0)]) 16 info158 rfl (by decide) (by omega) z158 (ok := fun _ => True) (okp := fun _ => True) (k158_mkM _ _ _ z158 ) (fun _ hk => hk) trivial (by omega) (by omega) (Below.refl _ _) (Nat.le_refl _) ?_
           intro v355 w16 ho17 hb hg_ hnew_; clear hg_ hnew_
           (first | rw [← Ny354.out] at ho17 | (simp only [Int.reduceToNat] at ho17; rw [← Ny354.out] at ho17))
           have n0_ := Aside0.mk (Kd.N_elder' (byN HO389.out) (Kd.R_base ho17) hb); have n1_ := Aside0.mk (Kd.R_lower (Kd.R_newM (M := fun k_ => (w.heap.size ≤ k_)) ho17 (below_size (byB1 HB.out GE350.out)) (fun k_ h_ => h_)) (below_size (byB1 HB.out GE350.out))); have n2_ := Aside0.mk (blk_below (g := gb350) (o := .cells #[.slice none 0 0, .slice none 0 0, .slice none 0 0] 37 (0, 0)) (byK BK350.out) hb); have n3_ := Aside0.mk (below_step (byB1 HB.out GE350.out) hb); clear HO389 BK350 HB; have HO389 := n0_; have HO356 := n1_; have BK350 := n2_; have HB := n3_; clear n0_ n1_ n2_ n3_ hb ho17
           refine hK.out _ _ trivial (fun hHeld => ?_)
           clear hK K
           refine norm_ (a' := ?_) ?_ ?_
           rotate_left
           ·show Act.put _ (some 2) _ = _
            simp only [putW]; rfl
           exact norm_ (by first | (simp only [putAll, Act.put, List.setIfInBounds_toArray, List.set_cons_zero, List.set_cons_succ]; done) | (simp only [putAll, Act.put, List.setIfInBounds_toArray, List.set_cons_zero, List.set_cons_succ]; rfl)) (hJ1_2_3_4_5 (v355, v363, v373, v383, v388) _ ⟨(by (with_reducible repeat (first | apply Kd.R_alloc | apply Kd.R_drewN | apply Kd.R_drew)); exact Kd.R_mono HO356.out (fun _ hk => hk.1)), (by (with_reducible repeat (first | apply Kd.N_alloc | apply Kd.N_drewN | apply Kd.N_drew)); exact Kd.N_mono HO389.out (fun _ hk => ⟨hk.1.1, ⟨hk.2, hk.1.2⟩⟩)), (byK BK350.out), (byB1 HB.out GE350.out)⟩)
        ·skip
         rintro ⟨v355, v363, v373, v383⟩ w12 ⟨h0_, h1_, h2_, h3_, h4_, h5_⟩
         have n0_ : Aside0 (Kd.R k158 158 w12 w.heap.size (fun k_ => (w.heap.size ≤ k_)) v355 y354) := ⟨h0_⟩
         have n1_ : Aside0 (Kd.R k120 120 w12 w.heap.size (fun k_ => (w.heap.size ≤ k_) ∧ some k_ ≠ (v373 : Value).ownBlock ∧ some k_ ≠ (v383 : Value).ownBlock) v363 t362) := ⟨h1_⟩
         have n2_ : Aside0 (Kd.R k120 120 w12 w.heap.size (fun k_ => (w.heap.size ≤ k_) ∧ some k_ ≠ (v363 : Value).ownBlock ∧ some k_ ≠ (v383 : Value).ownBlock) v373 t372) := ⟨h2_⟩
         have n3_ : Aside0 (Kd.R k120 120 w12 w.heap.size (fun k_ => (w.heap.size ≤ k_) ∧ some k_ ≠ (v363 : Value).ownBlock ∧ some k_ ≠ (v373 : Value).ownBlock) v383 t382) := ⟨h3_⟩
         have n4_ : Aside0 (w12.heap[gb350]? = some (.cells #[.slice none 0 0, .slice none 0 0, .slice none 0 0] 37 (0, 0))) := ⟨h4_⟩
         have n5_ : Aside0 (Below w.heap.size w w12) := ⟨h5_⟩
         clear BK350 HB h0_ h1_ h2_ h3_ h4_ h5_; have HO356 := n0_; have HO364 := n1_; have HO374 := n2_; have HO384 := n3_; have BK350 := n4_; have HB := n5_; clear n0_ n1_ n2_ n3_ n4_ n5_; have hHeld := trivial
         refine norm_ (a' := ?_) ?_ ?_
         rotate_left
         ·simp only [putAll, Act.put, List.setIfInBounds_toArray, List.set_cons_zero, List.set_cons_succ]
          rfl
         refine two_ (i := 0) (j := 5) (Ni := some 1) (Nj := some 6) (bits 8 31) (bits 8 62) rfl rfl rfl rfl (two_of HT_.out (by kernel_rfl)) (by decide) (by decide) (fun K hK => ?_) (fun K hK => ?_)
         ·skip
          refine Kd.R_lit_step (Kd.int .i64) _ 3 ?hg (N := 1) ?hd (xs := ([1, 2, 3, 4] : List Int)) (inner := [.int .i64 1, .int .i64 2, .int .i64 3, .int .i64 4]) (ok := fun _ => True) (okp := fun _ => True) ?hr ?hp (fun _ hk => hk) trivial (Below.refl _ _) (Nat.le_refl _) (by simp) ?_; (case hd => rfl); (case hg => rfl); (case hr => first | (go_simp; done) | (go_simp; rfl)); (case hp => exact (Reps.one (show Kd.M (Kd.int .i64) _ _ _ 1 [.int .i64 1] from rfl) (Reps.one (show Kd.M (Kd.int .i64) _ _ _ 2 [.int .i64 2] from rfl) (Reps.one (show Kd.M (Kd.int .i64) _ _ _ 3 [.int .i64 3] from rfl) (Reps.one (show Kd.M (Kd.int .i64) _ _ _ 4 [.int .i64 4] from rfl) (Reps.none _ _))))))
          intro v352 w13 ho14 hb hg_ hnew_; clear hg_ hnew_
          (first | rw [← Ny351.out] at ho14 | (simp only [Int.reduceToNat] at ho14; rw [← Ny351.out] at ho14))
          have n0_ := Aside0.mk (Kd.R_below (byR HO356.out) hb); have n1_ := Aside0.mk (Kd.R_below (byR HO364.out) hb); have n2_ := Aside0.mk (Kd.R_below (byR HO374.out) hb); have n3_ := Aside0.mk (Kd.R_below (byR HO384.out) hb); have n4_ := Aside0.mk (Kd.R_lower (Kd.R_newM (M := fun k_ => (w.heap.size ≤ k_)) ho14 (below_size (byB1 HB.out GE350.out)) (fun k_ h_ => h_)) (below_size (byB1 HB.out GE350.out))); have n5_ := Aside0.mk (blk_below (g := gb350) (o := .cells #[.slice none 0 0, .slice none 0 0, .slice none 0 0] 37 (0, 0)) (byK BK350.out) hb); have n6_ := Aside0.mk (below_step (byB1 HB.out GE350.out) hb); clear HO356 HO364 HO374 HO384 BK350 HB; have HO356 := n0_; have HO364 := n1_; have HO374 := n2_; have HO384 := n3_; have HO353 := n4_; have BK350 := n5_; have HB := n6_; clear n0_ n1_ n2_ n3_ n4_ n5_ n6_ hb ho14
          refine hK.out _ _ trivial (fun hHeld => ?_)
          clear hK K
          refine norm_ (a' := ?_) ?_ ?_
          rotate_left
          ·show Act.put _ (some 1) _ = _
           simp only [putW]; rfl
          exact norm_ (by first | (simp only [putAll, Act.put, List.setIfInBounds_toArray, List.set_cons_zero, List.set_cons_succ]; done) | (simp only [putAll, Act.put, List.setIfInBounds_toArray, List.set_cons_zero, List.set_cons_succ]; rfl)) (hJ0_1_2_3_4 (v352, v355, v363, v373, v383) _ ⟨(by (with_reducible repeat (first | apply Kd.R_alloc | apply Kd.R_drewN | apply Kd.R_drew)); exact Kd.R_mono HO353.out (fun _ hk => hk.1)), (byR HO356.out), (byR HO364.out), (byR HO374.out), (byR HO384.out), (byK BK350.out), (byB1 HB.out GE350.out)⟩)
         ·skip
          try (obtain ⟨Ao13, co13, eo13⟩ := Kd.R_slice HO364.out; subst eo13)
          try (obtain ⟨Ao14, co14, eo14⟩ := Kd.R_slice HO374.out; subst eo14)
          try (obtain ⟨Ao15, co15, eo15⟩ := Kd.R_slice HO384.out; subst eo15)
          refine Kd.N_lit_step k58 _ 58 ?hg (N' := 6) ?hd (xs := ([(⟨t357, t358, t359, t360, t361, (⟨t362, t365, t366⟩ : S56)⟩ : S58), (⟨t367, t368, t369, t370, t371, (⟨t372, t375, t376⟩ : S56)⟩ : S58), (⟨t377, t378, t379, t380, t381, (⟨t382, t385, t386⟩ : S56)⟩ : S58)] : List (S58))) (inner := [.int .i64 t357, .int .i64 t358, .int .i64 t359, .int .i64 t360, .int .i64 t361, .slice Ao13 t362.length co13, .int .i64 t365, .int .i64 t366, .int .i64 t367, .int .i64 t368, .int .i64 t369, .int .i64 t370, .int .i64 t371, .slice Ao14 t372.length co14, .int .i64 t375, .int .i64 t376, .int .i64 t377, .int .i64 t378, .int .i64 t379, .int .i64 t380, .int .i64 t381, .slice Ao15 t382.length co15, .int .i64 t385, .int .i64 t386]) (ok := (fun k_ => (w.heap.size ≤ k_) ∧ some k_ ≠ (v355 : Value).ownBlock ∧ k_ ≠ gb350)) (okp := (fun k_ => (w.heap.size ≤ k_) ∧ some k_ ≠ (v355 : Value).ownBlock ∧ k_ ≠ gb350)) ?hr ?hp (fun _ hk => hk) ((show ∀ k_, w12.heap.size ≤ k_ → (fun k_ => (w.heap.size ≤ k_) ∧ some k_ ≠ (v355 : Value).ownBlock ∧ k_ ≠ gb350) k_ from fun k_ hk => ⟨(Nat.le_trans (below_size (byB1 HB.out GE350.out)) hk), Kd.fresh' (Kd.R_lt (byR HO356.out)) k_ hk, Kd.freshB (g := gb350) (o := .cells #[.slice none 0 0, .slice none 0 0, .slice none 0 0] 37 (0, 0)) (byK BK350.out) k_ hk⟩) _ (Nat.le_refl _)) (Below.refl _ _) (Nat.le_refl _) (by simp) ?_; (case hd => rfl); (case hg => rfl); (case hr => first | (go_simp; done) | (go_simp; rfl)); (case hp => exact (Reps.c8 (show Kd.FK k58 _ _ (⟨t357, t358, t359, t360, t361, (⟨t362, t365, t366⟩ : S56)⟩ : S58) [.int .i64 t357, .int .i64 t358, .int .i64 t359, .int .i64 t360, .int .i64 t361, .slice Ao13 t362.length co13, .int .i64 t365, .int .i64 t366] from (k58_mkF _ _ (⟨t357, t358, t359, t360, t361, (⟨t362, t365, t366⟩ : S56)⟩ : S58) (Kd.R_reads' (Kd.R_mono (ok' := (fun k_ => (w.heap.size ≤ k_) ∧ some k_ ≠ (v355 : Value).ownBlock ∧ k_ ≠ gb350)) (Kd.R_types (Kd.R_apart' (HO364.out) (Kd.R_typed HO356.out) (by decide)) BK350.out (by decide)) (fun k_ hk => ⟨hk.1.1.1, ⟨hk.1.2, hk.2⟩⟩))).2.1 (Kd.R_F (Kd.R_mono (ok' := (fun k_ => (w.heap.size ≤ k_) ∧ some k_ ≠ (v355 : Value).ownBlock ∧ k_ ≠ gb350)) (Kd.R_types (Kd.R_apart' (HO364.out) (Kd.R_typed HO356.out) (by decide)) BK350.out (by decide)) (fun k_ hk => ⟨hk.1.1.1, ⟨hk.1.2, hk.2⟩⟩))))) (Reps.c8 (show Kd.FK k58 _ _ (⟨t367, t368, t369, t370, t371, (⟨t372, t375, t376⟩ : S56)⟩ : S58) [.int .i64 t367, .int .i64 t368, .int .i64 t369, .int .i64 t370, .int .i64 t371, .slice Ao14 t372.length co14, .int .i64 t375, .int .i64 t376] from (k58_mkF _ _ (⟨t367, t368, t369, t370, t371, (⟨t372, t375, t376⟩ : S56)⟩ : S58) (Kd.R_reads' (Kd.R_mono (ok' := (fun k_ => (w.heap.size ≤ k_) ∧ some k_ ≠ (v355 : Value).ownBlock ∧ k_ ≠ gb350)) (Kd.R_types (Kd.R_apart' (HO374.out) (Kd.R_typed HO356.out) (by decide)) BK350.out (by decide)) (fun k_ hk => ⟨hk.1.1.1, ⟨hk.1.2, hk.2⟩⟩))).2.1 (Kd.R_F (Kd.R_mono (ok' := (fun k_ => (w.heap.size ≤ k_) ∧ some k_ ≠ (v355 : Value).ownBlock ∧ k_ ≠ gb350)) (Kd.R_types (Kd.R_apart' (HO374.out) (Kd.R_typed HO356.out) (by decide)) BK350.out (by decide)) (fun k_ hk => ⟨hk.1.1.1, ⟨hk.1.2, hk.2⟩⟩))))) (Reps.c8 (show Kd.FK k58 _ _ (⟨t377, t378, t379, t380, t381, (⟨t382, t385, t386⟩ : S56)⟩ : S58) [.int .i64 t377, .int .i64 t378, .int .i64 t379, .int .i64 t380, .int .i64 t381, .slice Ao15 t382.length co15, .int .i64 t385, .int .i64 t386] from (k58_mkF _ _ (⟨t377, t378, t379, t380, t381, (⟨t382, t385, t386⟩ : S56)⟩ : S58) (Kd.R_reads' (Kd.R_mono (ok' := (fun k_ => (w.heap.size ≤ k_) ∧ some k_ ≠ (v355 : Value).ownBlock ∧ k_ ≠ gb350)) (Kd.R_types (Kd.R_apart' (HO384.out) (Kd.R_typed HO356.out) (by decide)) BK350.out (by decide)) (fun k_ hk => ⟨hk.1.1.1, ⟨hk.1.2, hk.2⟩⟩))).2.1 (Kd.R_F (Kd.R_mono (ok' := (fun k_ => (w.heap.size ≤ k_) ∧ some k_ ≠ (v355 : Value).ownBlock ∧ k_ ≠ gb350)) (Kd.R_types (Kd.R_apart' (HO384.out) (Kd.R_typed HO356.out) (by decide)) BK350.out (by decide)) (fun k_ hk => ⟨hk.1.1.1, ⟨hk.1.2, hk.2⟩⟩))))) (Reps.none _ _)))))
          intro v388 w16 ho17 hb hg_ hnew_; clear hg_ hnew_
          (first | rw [← Ny387.out] at ho17 | (simp only [Int.reduceToNat] at ho17; rw [← Ny387.out] at ho17))
          have n0_ := Aside0.mk (Kd.R_below (byR HO356.out) hb); have n1_ := Aside0.mk (Kd.N_lower ho17 (below_size (byB1 HB.out GE350.out))); have n2_ := Aside0.mk (blk_below (g := gb350) (o := .cells #[.slice none 0 0, .slice none 0 0, .slice none 0 0] 37 (0, 0)) (byK BK350.out) hb); have n3_ := Aside0.mk (below_step (byB1 HB.out GE350.out) hb); clear HO356 BK350 HB HO364 HO374 HO384; have HO356 := n0_; have HO389 := n1_; have BK350 := n2_; have HB := n3_; clear n0_ n1_ n2_ n3_ hb ho17
          refine hK.out _ _ trivial (fun hHeld => ?_)
          clear hK K
          refine norm_ (a' := ?_) ?_ ?_
          rotate_left
          ·show Act.put _ (some 6) _ = _
           simp only [putW]; rfl
          exact norm_ (by first | (simp only [putAll, Act.put, List.setIfInBounds_toArray, List.set_cons_zero, List.set_cons_succ]; done) | (simp only [putAll, Act.put, List.setIfInBounds_toArray, List.set_cons_zero, List.set_cons_succ]; rfl)) (hJ1_2_3_4_5 (v355, .slice Ao13 t362.length co13, .slice Ao14 t372.length co14, .slice Ao15 t382.length co15, v388) _ ⟨(byR HO356.out), (byN HO389.out), (byK BK350.out), (byB1 HB.out GE350.out)⟩)
       ·skip
        rintro ⟨v352, v363, v373, v383⟩ w12 ⟨h0_, h1_, h2_, h3_, h4_, h5_⟩
        have n0_ : Aside0 (Kd.R (Kd.int .i64) 3 w12 w.heap.size (fun k_ => (w.heap.size ≤ k_)) v352 y351) := ⟨h0_⟩
        have n1_ : Aside0 (Kd.R k120 120 w12 w.heap.size (fun k_ => (w.heap.size ≤ k_) ∧ some k_ ≠ (v373 : Value).ownBlock ∧ some k_ ≠ (v383 : Value).ownBlock) v363 t362) := ⟨h1_⟩
        have n2_ : Aside0 (Kd.R k120 120 w12 w.heap.size (fun k_ => (w.heap.size ≤ k_) ∧ some k_ ≠ (v363 : Value).ownBlock ∧ some k_ ≠ (v383 : Value).ownBlock) v373 t372) := ⟨h2_⟩
        have n3_ : Aside0 (Kd.R k120 120 w12 w.heap.size (fun k_ => (w.heap.size ≤ k_) ∧ some k_ ≠ (v363 : Value).ownBlock ∧ some k_ ≠ (v373 : Value).ownBlock) v383 t382) := ⟨h3_⟩
        have n4_ : Aside0 (w12.heap[gb350]? = some (.cells #[.slice none 0 0, .slice none 0 0, .slice none 0 0] 37 (0, 0))) := ⟨h4_⟩
        have n5_ : Aside0 (Below w.heap.size w w12) := ⟨h5_⟩
        clear BK350 HB h0_ h1_ h2_ h3_ h4_ h5_; have HO353 := n0_; have HO364 := n1_; have HO374 := n2_; have HO384 := n3_; have BK350 := n4_; have HB := n5_; clear n0_ n1_ n2_ n3_ n4_ n5_; have hHeld := trivial
        refine norm_ (a' := ?_) ?_ ?_
        rotate_left
        ·simp only [putAll, Act.put, List.setIfInBounds_toArray, List.set_cons_zero, List.set_cons_succ]
         rfl
        refine two_ (i := 1) (j := 5) (Ni := some 2) (Nj := some 6) (bits 8 31) (bits 8 61) rfl rfl rfl rfl (two_of HT_.out (by kernel_rfl)) (by decide) (by decide) (fun K hK => ?_) (fun K hK => ?_)
        ·skip
         refine Kd.R_make_step k158 _ 158 (by rfl) (N := 2) rfl 34 _ _ rfl 4 rfl rfl Try.underlying34 (.agg #[(.int .i64 0), (.int .i64 0)]) 16 info158 rfl (by decide) (by omega) z158 (ok := fun _ => True) (okp := fun _ => True) (k158_mkM _ _ _ z158 ) (fun _ hk => hk) trivial (by omega) (by omega) (Below.refl _ _) (Nat.le_refl _) ?_
         intro v355 w13 ho14 hb hg_ hnew_; clear hg_ hnew_
         (first | rw [← Ny354.out] at ho14 | (simp only [Int.reduceToNat] at ho14; rw [← Ny354.out] at ho14))
         have n0_ := Aside0.mk (Kd.R_below (byR HO353.out) hb); have n1_ := Aside0.mk (Kd.R_below (byR HO364.out) hb); have n2_ := Aside0.mk (Kd.R_below (byR HO374.out) hb); have n3_ := Aside0.mk (Kd.R_below (byR HO384.out) hb); have n4_ := Aside0.mk (Kd.R_lower (Kd.R_newM (M := fun k_ => (w.heap.size ≤ k_)) ho14 (below_size (byB1 HB.out GE350.out)) (fun k_ h_ => h_)) (below_size (byB1 HB.out GE350.out))); have n5_ := Aside0.mk (blk_below (g := gb350) (o := .cells #[.slice none 0 0, .slice none 0 0, .slice none 0 0] 37 (0, 0)) (byK BK350.out) hb); have n6_ := Aside0.mk (below_step (byB1 HB.out GE350.out) hb); clear HO353 HO364 HO374 HO384 BK350 HB; have HO353 := n0_; have HO364 := n1_; have HO374 := n2_; have HO384 := n3_; have HO356 := n4_; have BK350 := n5_; have HB := n6_; clear n0_ n1_ n2_ n3_ n4_ n5_ n6_ hb ho14
         refine hK.out _ _ trivial (fun hHeld => ?_)
         clear hK K
         refine norm_ (a' := ?_) ?_ ?_
         rotate_left
         ·show Act.put _ (some 2) _ = _
          simp only [putW]; rfl
         exact norm_ (by first | (simp only [putAll, Act.put, List.setIfInBounds_toArray, List.set_cons_zero, List.set_cons_succ]; done) | (simp only [putAll, Act.put, List.setIfInBounds_toArray, List.set_cons_zero, List.set_cons_succ]; rfl)) (hJ0_1_2_3_4 (v352, v355, v363, v373, v383) _ ⟨(byR HO353.out), (by (with_reducible repeat (first | apply Kd.R_alloc | apply Kd.R_drewN | apply Kd.R_drew)); exact Kd.R_mono HO356.out (fun _ hk => hk.1)), (byR HO364.out), (byR HO374.out), (byR HO384.out), (byK BK350.out), (byB1 HB.out GE350.out)⟩)
        ·skip
         try (obtain ⟨Ao13, co13, eo13⟩ := Kd.R_slice HO364.out; subst eo13)
         try (obtain ⟨Ao14, co14, eo14⟩ := Kd.R_slice HO374.out; subst eo14)
         try (obtain ⟨Ao15, co15, eo15⟩ := Kd.R_slice HO384.out; subst eo15)
         refine Kd.N_lit_step k58 _ 58 ?hg (N' := 6) ?hd (xs := ([(⟨t357, t358, t359, t360, t361, (⟨t362, t365, t366⟩ : S56)⟩ : S58), (⟨t367, t368, t369, t370, t371, (⟨t372, t375, t376⟩ : S56)⟩ : S58), (⟨t377, t378, t379, t380, t381, (⟨t382, t385, t386⟩ : S56)⟩ : S58)] : List (S58))) (inner := [.int .i64 t357, .int .i64 t358, .int .i64 t359, .int .i64 t360, .int .i64 t361, .slice Ao13 t362.length co13, .int .i64 t365, .int .i64 t366, .int .i64 t367, .int .i64 t368, .int .i64 t369, .int .i64 t370, .int .i64 t371, .slice Ao14 t372.length co14, .int .i64 t375, .int .i64 t376, .int .i64 t377, .int .i64 t378, .int .i64 t379, .int .i64 t380, .int .i64 t381, .slice Ao15 t382.length co15, .int .i64 t385, .int .i64 t386]) (ok := (fun k_ => (w.heap.size ≤ k_) ∧ some k_ ≠ (v352 : Value).ownBlock ∧ k_ ≠ gb350)) (okp := (fun k_ => (w.heap.size ≤ k_) ∧ some k_ ≠ (v352 : Value).ownBlock ∧ k_ ≠ gb350)) ?hr ?hp (fun _ hk => hk) ((show ∀ k_, w12.heap.size ≤ k_ → (fun k_ => (w.heap.size ≤ k_) ∧ some k_ ≠ (v352 : Value).ownBlock ∧ k_ ≠ gb350) k_ from fun k_ hk => ⟨(Nat.le_trans (below_size (byB1 HB.out GE350.out)) hk), Kd.fresh' (Kd.R_lt (byR HO353.out)) k_ hk, Kd.freshB (g := gb350) (o := .cells #[.slice none 0 0, .slice none 0 0, .slice none 0 0] 37 (0, 0)) (byK BK350.out) k_ hk⟩) _ (Nat.le_refl _)) (Below.refl _ _) (Nat.le_refl _) (by simp) ?_; (case hd => rfl); (case hg => rfl); (case hr => first | (go_simp; done) | (go_simp; rfl)); (case hp => exact (Reps.c8 (show Kd.FK k58 _ _ (⟨t357, t358, t359, t360, t361, (⟨t362, t365, t366⟩ : S56)⟩ : S58) [.int .i64 t357, .int .i64 t358, .int .i64 t359, .int .i64 t360, .int .i64 t361, .slice Ao13 t362.length co13, .int .i64 t365, .int .i64 t366] from (k58_mkF _ _ (⟨t357, t358, t359, t360, t361, (⟨t362, t365, t366⟩ : S56)⟩ : S58) (Kd.R_reads' (Kd.R_mono (ok' := (fun k_ => (w.heap.size ≤ k_) ∧ some k_ ≠ (v352 : Value).ownBlock ∧ k_ ≠ gb350)) (Kd.R_types (Kd.R_apart' (HO364.out) (Kd.R_typed HO353.out) (by decide)) BK350.out (by decide)) (fun k_ hk => ⟨hk.1.1.1, ⟨hk.1.2, hk.2⟩⟩))).2.1 (Kd.R_F (Kd.R_mono (ok' := (fun k_ => (w.heap.size ≤ k_) ∧ some k_ ≠ (v352 : Value).ownBlock ∧ k_ ≠ gb350)) (Kd.R_types (Kd.R_apart' (HO364.out) (Kd.R_typed HO353.out) (by decide)) BK350.out (by decide)) (fun k_ hk => ⟨hk.1.1.1, ⟨hk.1.2, hk.2⟩⟩))))) (Reps.c8 (show Kd.FK k58 _ _ (⟨t367, t368, t369, t370, t371, (⟨t372, t375, t376⟩ : S56)⟩ : S58) [.int .i64 t367, .int .i64 t368, .int .i64 t369, .int .i64 t370, .int .i64 t371, .slice Ao14 t372.length co14, .int .i64 t375, .int .i64 t376] from (k58_mkF _ _ (⟨t367, t368, t369, t370, t371, (⟨t372, t375, t376⟩ : S56)⟩ : S58) (Kd.R_reads' (Kd.R_mono (ok' := (fun k_ => (w.heap.size ≤ k_) ∧ some k_ ≠ (v352 : Value).ownBlock ∧ k_ ≠ gb350)) (Kd.R_types (Kd.R_apart' (HO374.out) (Kd.R_typed HO353.out) (by decide)) BK350.out (by decide)) (fun k_ hk => ⟨hk.1.1.1, ⟨hk.1.2, hk.2⟩⟩))).2.1 (Kd.R_F (Kd.R_mono (ok' := (fun k_ => (w.heap.size ≤ k_) ∧ some k_ ≠ (v352 : Value).ownBlock ∧ k_ ≠ gb350)) (Kd.R_types (Kd.R_apart' (HO374.out) (Kd.R_typed HO353.out) (by decide)) BK350.out (by decide)) (fun k_ hk => ⟨hk.1.1.1, ⟨hk.1.2, hk.2⟩⟩))))) (Reps.c8 (show Kd.FK k58 _ _ (⟨t377, t378, t379, t380, t381, (⟨t382, t385, t386⟩ : S56)⟩ : S58) [.int .i64 t377, .int .i64 t378, .int .i64 t379, .int .i64 t380, .int .i64 t381, .slice Ao15 t382.length co15, .int .i64 t385, .int .i64 t386] from (k58_mkF _ _ (⟨t377, t378, t379, t380, t381, (⟨t382, t385, t386⟩ : S56)⟩ : S58) (Kd.R_reads' (Kd.R_mono (ok' := (fun k_ => (w.heap.size ≤ k_) ∧ some k_ ≠ (v352 : Value).ownBlock ∧ k_ ≠ gb350)) (Kd.R_types (Kd.R_apart' (HO384.out) (Kd.R_typed HO353.out) (by decide)) BK350.out (by decide)) (fun k_ hk => ⟨hk.1.1.1, ⟨hk.1.2, hk.2⟩⟩))).2.1 (Kd.R_F (Kd.R_mono (ok' := (fun k_ => (w.heap.size ≤ k_) ∧ some k_ ≠ (v352 : Value).ownBlock ∧ k_ ≠ gb350)) (Kd.R_types (Kd.R_apart' (HO384.out) (Kd.R_typed HO353.out) (by decide)) BK350.out (by decide)) (fun k_ hk => ⟨hk.1.1.1, ⟨hk.1.2, hk.2⟩⟩))))) (Reps.none _ _)))))
         intro v388 w16 ho17 hb hg_ hnew_; clear hg_ hnew_
         (first | rw [← Ny387.out] at ho17 | (simp only [Int.reduceToNat] at ho17; rw [← Ny387.out] at ho17))
         have n0_ := Aside0.mk (Kd.R_below (byR HO353.out) hb); have n1_ := Aside0.mk (Kd.N_lower ho17 (below_size (byB1 HB.out GE350.out))); have n2_ := Aside0.mk (blk_below (g := gb350) (o := .cells #[.slice none 0 0, .slice none 0 0, .slice none 0 0] 37 (0, 0)) (byK BK350.out) hb); have n3_ := Aside0.mk (below_step (byB1 HB.out GE350.out) hb); clear HO353 BK350 HB HO364 HO374 HO384; have HO353 := n0_; have HO389 := n1_; have BK350 := n2_; have HB := n3_; clear n0_ n1_ n2_ n3_ hb ho17
         refine hK.out _ _ trivial (fun hHeld => ?_)
         clear hK K
         refine norm_ (a' := ?_) ?_ ?_
         rotate_left
         ·show Act.put _ (some 6) _ = _
          simp only [putW]; rfl
         exact norm_ (by first | (simp only [putAll, Act.put, List.setIfInBounds_toArray, List.set_cons_zero, List.set_cons_succ]; done) | (simp only [putAll, Act.put, List.setIfInBounds_toArray, List.set_cons_zero, List.set_cons_succ]; rfl)) (hJ0_2_3_4_5 (v352, .slice Ao13 t362.length co13, .slice Ao14 t372.length co14, .slice Ao15 t382.length co15, v388) _ ⟨(byR HO353.out), (byN HO389.out), (byK BK350.out), (byB1 HB.out GE350.out)⟩)
      ·skip
       rintro ⟨v352, v355, v363, v373⟩ w13 ⟨h0_, h1_, h2_, h3_, h4_, h5_⟩
       have n0_ : Aside0 (Kd.R (Kd.int .i64) 3 w13 w.heap.size (fun k_ => (w.heap.size ≤ k_)) v352 y351) := ⟨h0_⟩
       have n1_ : Aside0 (Kd.R k158 158 w13 w.heap.size (fun k_ => (w.heap.size ≤ k_)) v355 y354) := ⟨h1_⟩
       have n2_ : Aside0 (Kd.R k120 120 w13 w.heap.size (fun k_ => (w.heap.size ≤ k_) ∧ some k_ ≠ (v373 : Value).ownBlock) v363 t362) := ⟨h2_⟩
       have n3_ : Aside0 (Kd.R k120 120 w13 w.heap.size (fun k_ => (w.heap.size ≤ k_) ∧ some k_ ≠ (v363 : Value).ownBlock) v373 t372) := ⟨h3_⟩
       have n4_ : Aside0 (w13.heap[gb350]? = some (.cells #[.slice none 0 0, .slice none 0 0, .slice none 0 0] 37 (0, 0))) := ⟨h4_⟩
       have n5_ : Aside0 (Below w.heap.size w w13) := ⟨h5_⟩
       clear BK350 HB h0_ h1_ h2_ h3_ h4_ h5_; have HO353 := n0_; have HO356 := n1_; have HO364 := n2_; have HO374 := n3_; have BK350 := n4_; have HB := n5_; clear n0_ n1_ n2_ n3_ n4_ n5_; have hHeld := trivial
       refine norm_ (a' := ?_) ?_ ?_
       rotate_left
       ·simp only [putAll, Act.put, List.setIfInBounds_toArray, List.set_cons_zero, List.set_cons_succ]
        rfl
       refine one_ (i := 4) (N := some 5) (bits 8 31) rfl rfl (one_of HT_.out (by kernel_rfl)) (by decide) (fun K hK => ?_)
       refine goes_ Try.func46 (by kernel_rfl) rfl #[.int .i64 1, .int .i64 3, .int .i64 4] (by rfl) rfl rfl byL ?_
       with_reducible refine (mapmakerlaw47_piece.calls 1 3 4 t377 t378 t379 t380 t381 t382 t385 t386 _ A4.out).mono ?_
       rintro e w14 ⟨v383, rfl, ho0, hb⟩
       refine ⟨_, rfl, ?_⟩
       have n0_ := Aside0.mk (Kd.R_below (byR HO353.out) hb); have n1_ := Aside0.mk (Kd.R_below (byR HO356.out) hb); have n2_ := Aside0.mk (Kd.R_elder' (byR HO364.out) (Kd.R_base ho0) hb); have n3_ := Aside0.mk (Kd.R_elder' (byR HO374.out) (Kd.R_base ho0) hb); have n4_ := Aside0.mk (Kd.R_lower (Kd.R_new' (Kd.R_new' (Kd.R_newM (M := fun k_ => (w.heap.size ≤ k_)) ho0 (below_size (byB1 HB.out GE350.out)) (fun k_ h_ => h_)) (Kd.R_lt (byR HO364.out))) (Kd.R_lt (byR HO374.out))) (below_size (byB1 HB.out GE350.out))); have n5_ := Aside0.mk (blk_below (g := gb350) (o := .cells #[.slice none 0 0, .slice none 0 0, .slice none 0 0] 37 (0, 0)) (byK BK350.out) hb); have n6_ := Aside0.mk (below_step (byB1 HB.out GE350.out) hb); clear HO353 HO356 HO364 HO374 BK350 HB; have HO353 := n0_; have HO356 := n1_; have HO364 := n2_; have HO374 := n3_; have HO384 := n4_; have BK350 := n5_; have HB := n6_; clear n0_ n1_ n2_ n3_ n4_ n5_ n6_
       (try clear hb)
       (try clear hb2)
       (try clear hk)
       (try clear hi)
       (try clear ho0)
       refine hK.out _ _ trivial (fun hHeld => ?_)
       clear hK K
       refine norm_ (a' := ?_) ?_ ?_
       rotate_left
       ·show Act.put _ (some 5) _ = _
        simp only [putW]; rfl
       exact norm_ (by first | (simp only [putAll, Act.put, List.setIfInBounds_toArray, List.set_cons_zero, List.set_cons_succ]; done) | (simp only [putAll, Act.put, List.setIfInBounds_toArray, List.set_cons_zero, List.set_cons_succ]; rfl)) (hJ0_1_2_3_4 (v352, v355, v363, v373, v383) _ ⟨(byR HO353.out), (byR HO356.out), (by (with_reducible repeat (first | apply Kd.R_alloc | apply Kd.R_drewN | apply Kd.R_drew)); exact Kd.R_mono HO364.out (fun _ hk => ⟨hk.1.1, ⟨hk.1.2, hk.2⟩⟩)), (by (with_reducible repeat (first | apply Kd.R_alloc | apply Kd.R_drewN | apply Kd.R_drew)); exact Kd.R_mono HO374.out (fun _ hk => ⟨hk.1.1, ⟨hk.1.2, hk.2⟩⟩)), (by (with_reducible repeat (first | apply Kd.R_alloc | apply Kd.R_drewN | apply Kd.R_drew)); exact Kd.R_mono HO384.out (fun _ hk => ⟨hk.1.1.1, ⟨hk.1.2, hk.2⟩⟩)), (byK BK350.out), (byB1 HB.out GE350.out)⟩)
     ·skip
      rintro ⟨v355, v363, v373, v383, v388⟩ w17 ⟨h0_, h1_, h2_, h3_⟩
      have n0_ : Aside0 (Kd.R k158 158 w17 w.heap.size (fun k_ => (w.heap.size ≤ k_)) v355 y354) := ⟨h0_⟩
      have n1_ : Aside0 (Kd.N k58 58 w17 w.heap.size (fun k_ => (w.heap.size ≤ k_) ∧ some k_ ≠ (v355 : Value).ownBlock ∧ k_ ≠ gb350) v388 y387) := ⟨h1_⟩
      have n2_ : Aside0 (w17.heap[gb350]? = some (.cells #[.slice none 0 0, .slice none 0 0, .slice none 0 0] 37 (0, 0))) := ⟨h2_⟩
      have n3_ : Aside0 (Below w.heap.size w w17) := ⟨h3_⟩
      clear BK350 HB h0_ h1_ h2_ h3_; have HO356 := n0_; have HO389 := n1_; have BK350 := n2_; have HB := n3_; clear n0_ n1_ n2_ n3_; have hHeld := trivial
      refine norm_ (a' := ?_) ?_ ?_
      rotate_left
      ·simp only [putAll, Act.put, List.setIfInBounds_toArray, List.set_cons_zero, List.set_cons_succ]
       rfl
      refine one_ (i := 0) (N := some 1) (bits 8 63) rfl rfl (one_of HT_.out (by kernel_rfl)) (by decide) (fun K hK => ?_)
      refine Kd.R_lit_step (Kd.int .i64) _ 3 ?hg (N := 1) ?hd (xs := ([1, 2, 3, 4] : List Int)) (inner := [.int .i64 1, .int .i64 2, .int .i64 3, .int .i64 4]) (ok := fun _ => True) (okp := fun _ => True) ?hr ?hp (fun _ hk => hk) trivial (Below.refl _ _) (Nat.le_refl _) (by simp) ?_; (case hd => rfl); (case hg => rfl); (case hr => first | (go_simp; done) | (go_simp; rfl)); (case hp => exact (Reps.one (show Kd.M (Kd.int .i64) _ _ _ 1 [.int .i64 1] from rfl) (Reps.one (show Kd.M (Kd.int .i64) _ _ _ 2 [.int .i64 2] from rfl) (Reps.one (show Kd.M (Kd.int .i64) _ _ _ 3 [.int .i64 3] from rfl) (Reps.one (show Kd.M (Kd.int .i64) _ _ _ 4 [.int .i64 4] from rfl) (Reps.none _ _))))))
      intro v352 w18 ho19 hb hg_ hnew_; clear hg_ hnew_
      (first | rw [← Ny351.out] at ho19 | (simp only [Int.reduceToNat] at ho19; rw [← Ny351.out] at ho19))
      have n0_ := Aside0.mk (Kd.R_below (byR HO356.out) hb); have n1_ := Aside0.mk (Kd.N_elder' (byN HO389.out) (Kd.R_base ho19) hb); have n2_ := Aside0.mk (Kd.R_lower (Kd.R_newM (M := fun k_ => (w.heap.size ≤ k_)) ho19 (below_size (byB1 HB.out GE350.out)) (fun k_ h_ => h_)) (below_size (byB1 HB.out GE350.out))); have n3_ := Aside0.mk (blk_below (g := gb350) (o := .cells #[.slice none 0 0, .slice none 0 0, .slice none 0 0] 37 (0, 0)) (byK BK350.out) hb); have n4_ := Aside0.mk (below_step (byB1 HB.out GE350.out) hb); clear HO356 HO389 BK350 HB; have HO356 := n0_; have HO389 := n1_; have HO353 := n2_; have BK350 := n3_; have HB := n4_; clear n0_ n1_ n2_ n3_ n4_ hb ho19
      obtain ⟨Ao20, co20, eo20⟩ := Kd.N_slice HO389.out
      (first | subst eo20 | (injection eo20 with f1_ f2_ f3_; have f4_ := f1_.symm; have f5_ := f3_.symm; clear f1_ f2_ f3_; subst f4_; subst f5_))
      obtain ⟨Ao21, co21, eo21⟩ := Kd.R_slice HO356.out
      (first | subst eo21 | (injection eo21 with f1_ f2_ f3_; have f4_ := f1_.symm; have f5_ := f3_.symm; clear f1_ f2_ f3_; subst f4_; subst f5_))
      obtain ⟨Ao22, co22, eo22⟩ := Kd.R_slice HO353.out
      (first | subst eo22 | (injection eo22 with f1_ f2_ f3_; have f4_ := f1_.symm; have f5_ := f3_.symm; clear f1_ f2_ f3_; subst f4_; subst f5_))
      refine hK.out _ _ trivial (fun hHeld => ?_)
      clear hK K
      refine norm_ (a' := ?_) ?_ ?_
      rotate_left
      ·show Act.put _ (some 1) _ = _
       simp only [putW]; rfl
      exact norm_ (by first | (simp only [putAll, Act.put, List.setIfInBounds_toArray, List.set_cons_zero, List.set_cons_succ]; done) | (simp only [putAll, Act.put, List.setIfInBounds_toArray, List.set_cons_zero, List.set_cons_succ]; rfl)) (hJ0_1_2_3_4_5 (.slice Ao22 y351.length co22, .slice Ao21 y354.length co21, v363, v373, v383, .slice Ao20 y387.length co20) _ ⟨(by (with_reducible repeat (first | apply Kd.R_alloc | apply Kd.R_drewN | apply Kd.R_drew)); exact Kd.R_mono HO353.out (fun _ hk => hk.1)), (byR HO356.out), (by (with_reducible repeat (first | apply Kd.N_alloc | apply Kd.N_drewN | apply Kd.N_drew)); exact Kd.N_mono HO389.out (fun _ hk => ⟨hk.1.1, ⟨hk.2, ⟨hk.1.2.1, hk.1.2.2⟩⟩⟩)), (byK BK350.out), (byB1 HB.out GE350.out)⟩)
    ·skip
     rintro ⟨v352, v363, v373, v383, v388⟩ w17 ⟨h0_, h1_, h2_, h3_⟩
     have n0_ : Aside0 (Kd.R (Kd.int .i64) 3 w17 w.heap.size (fun k_ => (w.heap.size ≤ k_)) v352 y351) := ⟨h0_⟩
     have n1_ : Aside0 (Kd.N k58 58 w17 w.heap.size (fun k_ => (w.heap.size ≤ k_) ∧ some k_ ≠ (v352 : Value).ownBlock ∧ k_ ≠ gb350) v388 y387) := ⟨h1_⟩
     have n2_ : Aside0 (w17.heap[gb350]? = some (.cells #[.slice none 0 0, .slice none 0 0, .slice none 0 0] 37 (0, 0))) := ⟨h2_⟩
     have n3_ : Aside0 (Below w.heap.size w w17) := ⟨h3_⟩
     clear BK350 HB h0_ h1_ h2_ h3_; have HO353 := n0_; have HO389 := n1_; have BK350 := n2_; have HB := n3_; clear n0_ n1_ n2_ n3_; have hHeld := trivial
     refine norm_ (a' := ?_) ?_ ?_
     rotate_left
     ·simp only [putAll, Act.put, List.setIfInBounds_toArray, List.set_cons_zero, List.set_cons_succ]
      rfl
     refine one_ (i := 1) (N := some 2) (bits 8 63) rfl rfl (one_of HT_.out (by kernel_rfl)) (by decide) (fun K hK => ?_)
     refine Kd.R_make_step k158 _ 158 (by rfl) (N := 2) rfl 34 _ _ rfl 4 rfl rfl Try.underlying34 (.agg #[(.int .i64 0), (.int .i64 0)]) 16 info158 rfl (by decide) (by omega) z158 (ok := fun _ => True) (okp := fun _ => True) (k158_mkM _ _ _ z158 ) (fun _ hk => hk) trivial (by omega) (by omega) (Below.refl _ _) (Nat.le_refl _) ?_
     intro v355 w18 ho19 hb hg_ hnew_; clear hg_ hnew_
     (first | rw [← Ny354.out] at ho19 | (simp only [Int.reduceToNat] at ho19; rw [← Ny354.out] at ho19))
     have n0_ := Aside0.mk (Kd.R_below (byR HO353.out) hb); have n1_ := Aside0.mk (Kd.N_elder' (byN HO389.out) (Kd.R_base ho19) hb); have n2_ := Aside0.mk (Kd.R_lower (Kd.R_newM (M := fun k_ => (w.heap.size ≤ k_)) ho19 (below_size (byB1 HB.out GE350.out)) (fun k_ h_ => h_)) (below_size (byB1 HB.out GE350.out))); have n3_ := Aside0.mk (blk_below (g := gb350) (o := .cells #[.slice none 0 0, .slice none 0 0, .slice none 0 0] 37 (0, 0)) (byK BK350.out) hb); have n4_ := Aside0.mk (below_step (byB1 HB.out GE350.out) hb); clear HO353 HO389 BK350 HB; have HO353 := n0_; have HO389 := n1_; have HO356 := n2_; have BK350 := n3_; have HB := n4_; clear n0_ n1_ n2_ n3_ n4_ hb ho19
     obtain ⟨Ao20, co20, eo20⟩ := Kd.N_slice HO389.out
     (first | subst eo20 | (injection eo20 with f1_ f2_ f3_; have f4_ := f1_.symm; have f5_ := f3_.symm; clear f1_ f2_ f3_; subst f4_; subst f5_))
     obtain ⟨Ao21, co21, eo21⟩ := Kd.R_slice HO356.out
     (first | subst eo21 | (injection eo21 with f1_ f2_ f3_; have f4_ := f1_.symm; have f5_ := f3_.symm; clear f1_ f2_ f3_; subst f4_; subst f5_))
     obtain ⟨Ao22, co22, eo22⟩ := Kd.R_slice HO353.out
     (first | subst eo22 | (injection eo22 with f1_ f2_ f3_; have f4_ := f1_.symm; have f5_ := f3_.symm; clear f1_ f2_ f3_; subst f4_; subst f5_))
     refine hK.out _ _ trivial (fun hHeld => ?_)
     clear hK K
     refine norm_ (a' := ?_) ?_ ?_
     rotate_left
     ·show Act.put _ (some 2) _ = _
      simp only [putW]; rfl
     exact norm_ (by first | (simp only [putAll, Act.put, List.setIfInBounds_toArray, List.set_cons_zero, List.set_cons_succ]; done) | (simp only [putAll, Act.put, List.setIfInBounds_toArray, List.set_cons_zero, List.set_cons_succ]; rfl)) (hJ0_1_2_3_4_5 (.slice Ao22 y351.length co22, .slice Ao21 y354.length co21, v363, v373, v383, .slice Ao20 y387.length co20) _ ⟨(byR HO353.out), (by (with_reducible repeat (first | apply Kd.R_alloc | apply Kd.R_drewN | apply Kd.R_drew)); exact Kd.R_mono HO356.out (fun _ hk => hk.1)), (by (with_reducible repeat (first | apply Kd.N_alloc | apply Kd.N_drewN | apply Kd.N_drew)); exact Kd.N_mono HO389.out (fun _ hk => ⟨hk.1.1, ⟨hk.1.2.1, ⟨hk.2, hk.1.2.2⟩⟩⟩)), (byK BK350.out), (byB1 HB.out GE350.out)⟩)
   ·skip
    rintro ⟨v352, v355, v363, v373, v383⟩ w14 ⟨h0_, h1_, h2_, h3_, h4_, h5_, h6_⟩
    have n0_ : Aside0 (Kd.R (Kd.int .i64) 3 w14 w.heap.size (fun k_ => (w.heap.size ≤ k_)) v352 y351) := ⟨h0_⟩
    have n1_ : Aside0 (Kd.R k158 158 w14 w.heap.size (fun k_ => (w.heap.size ≤ k_)) v355 y354) := ⟨h1_⟩
    have n2_ : Aside0 (Kd.R k120 120 w14 w.heap.size (fun k_ => (w.heap.size ≤ k_) ∧ some k_ ≠ (v373 : Value).ownBlock ∧ some k_ ≠ (v383 : Value).ownBlock) v363 t362) := ⟨h2_⟩
    have n3_ : Aside0 (Kd.R k120 120 w14 w.heap.size (fun k_ => (w.heap.size ≤ k_) ∧ some k_ ≠ (v363 : Value).ownBlock ∧ some k_ ≠ (v383 : Value).ownBlock) v373 t372) := ⟨h3_⟩
    have n4_ : Aside0 (Kd.R k120 120 w14 w.heap.size (fun k_ => (w.heap.size ≤ k_) ∧ some k_ ≠ (v363 : Value).ownBlock ∧ some k_ ≠ (v373 : Value).ownBlock) v383 t382) := ⟨h4_⟩
    have n5_ : Aside0 (w14.heap[gb350]? = some (.cells #[.slice none 0 0, .slice none 0 0, .slice none 0 0] 37 (0, 0))) := ⟨h5_⟩
    have n6_ : Aside0 (Below w.heap.size w w14) := ⟨h6_⟩
    clear BK350 HB h0_ h1_ h2_ h3_ h4_ h5_ h6_; have HO353 := n0_; have HO356 := n1_; have HO364 := n2_; have HO374 := n3_; have HO384 := n4_; have BK350 := n5_; have HB := n6_; clear n0_ n1_ n2_ n3_ n4_ n5_ n6_; have hHeld := trivial
    obtain ⟨Ao15, co15, eo15⟩ := Kd.R_slice HO364.out
    (first | subst eo15 | (injection eo15 with f1_ f2_ f3_; have f4_ := f1_.symm; have f5_ := f3_.symm; clear f1_ f2_ f3_; subst f4_; subst f5_))
    obtain ⟨Ao16, co16, eo16⟩ := Kd.R_slice HO374.out
    (first | subst eo16 | (injection eo16 with f1_ f2_ f3_; have f4_ := f1_.symm; have f5_ := f3_.symm; clear f1_ f2_ f3_; subst f4_; subst f5_))
    obtain ⟨Ao17, co17, eo17⟩ := Kd.R_slice HO384.out
    (first | subst eo17 | (injection eo17 with f1_ f2_ f3_; have f4_ := f1_.symm; have f5_ := f3_.symm; clear f1_ f2_ f3_; subst f4_; subst f5_))
    refine norm_ (a' := ?_) ?_ ?_
    rotate_left
    ·simp only [putAll, Act.put, List.setIfInBounds_toArray, List.set_cons_zero, List.set_cons_succ]
     rfl
    refine one_ (i := 5) (N := some 6) (bits 8 63) rfl rfl (one_of HT_.out (by kernel_rfl)) (by decide) (fun K hK => ?_)
    try (obtain ⟨Ao15, co15, eo15⟩ := Kd.R_slice HO364.out; subst eo15)
    try (obtain ⟨Ao16, co16, eo16⟩ := Kd.R_slice HO374.out; subst eo16)
    try (obtain ⟨Ao17, co17, eo17⟩ := Kd.R_slice HO384.out; subst eo17)
    refine Kd.N_lit_step k58 _ 58 ?hg (N' := 6) ?hd (xs := ([(⟨t357, t358, t359, t360, t361, (⟨t362, t365, t366⟩ : S56)⟩ : S58), (⟨t367, t368, t369, t370, t371, (⟨t372, t375, t376⟩ : S56)⟩ : S58), (⟨t377, t378, t379, t380, t381, (⟨t382, t385, t386⟩ : S56)⟩ : S58)] : List (S58))) (inner := [.int .i64 t357, .int .i64 t358, .int .i64 t359, .int .i64 t360, .int .i64 t361, .slice Ao15 t362.length co15, .int .i64 t365, .int .i64 t366, .int .i64 t367, .int .i64 t368, .int .i64 t369, .int .i64 t370, .int .i64 t371, .slice Ao16 t372.length co16, .int .i64 t375, .int .i64 t376, .int .i64 t377, .int .i64 t378, .int .i64 t379, .int .i64 t380, .int .i64 t381, .slice Ao17 t382.length co17, .int .i64 t385, .int .i64 t386]) (ok := (fun k_ => (w.heap.size ≤ k_) ∧ some k_ ≠ (v352 : Value).ownBlock ∧ some k_ ≠ (v355 : Value).ownBlock ∧ k_ ≠ gb350)) (okp := (fun k_ => (w.heap.size ≤ k_) ∧ some k_ ≠ (v352 : Value).ownBlock ∧ some k_ ≠ (v355 : Value).ownBlock ∧ k_ ≠ gb350)) ?hr ?hp (fun _ hk => hk) ((show ∀ k_, w14.heap.size ≤ k_ → (fun k_ => (w.heap.size ≤ k_) ∧ some k_ ≠ (v352 : Value).ownBlock ∧ some k_ ≠ (v355 : Value).ownBlock ∧ k_ ≠ gb350) k_ from fun k_ hk => ⟨(Nat.le_trans (below_size (byB1 HB.out GE350.out)) hk), Kd.fresh' (Kd.R_lt (byR HO353.out)) k_ hk, Kd.fresh' (Kd.R_lt (byR HO356.out)) k_ hk, Kd.freshB (g := gb350) (o := .cells #[.slice none 0 0, .slice none 0 0, .slice none 0 0] 37 (0, 0)) (byK BK350.out) k_ hk⟩) _ (Nat.le_refl _)) (Below.refl _ _) (Nat.le_refl _) (by simp) ?_; (case hd => rfl); (case hg => rfl); (case hr => first | (go_simp; done) | (go_simp; rfl)); (case hp => exact (Reps.c8 (show Kd.FK k58 _ _ (⟨t357, t358, t359, t360, t361, (⟨t362, t365, t366⟩ : S56)⟩ : S58) [.int .i64 t357, .int .i64 t358, .int .i64 t359, .int .i64 t360, .int .i64 t361, .slice Ao15 t362.length co15, .int .i64 t365, .int .i64 t366] from (k58_mkF _ _ (⟨t357, t358, t359, t360, t361, (⟨t362, t365, t366⟩ : S56)⟩ : S58) (Kd.R_reads' (Kd.R_mono (ok' := (fun k_ => (w.heap.size ≤ k_) ∧ some k_ ≠ (v352 : Value).ownBlock ∧ some k_ ≠ (v355 : Value).ownBlock ∧ k_ ≠ gb350)) (Kd.R_types (Kd.R_apart' (Kd.R_apart' (HO364.out) (Kd.R_typed HO353.out) (by decide)) (Kd.R_typed HO356.out) (by decide)) BK350.out (by decide)) (fun k_ hk => ⟨hk.1.1.1.1, ⟨hk.1.1.2, ⟨hk.1.2, hk.2⟩⟩⟩))).2.1 (Kd.R_F (Kd.R_mono (ok' := (fun k_ => (w.heap.size ≤ k_) ∧ some k_ ≠ (v352 : Value).ownBlock ∧ some k_ ≠ (v355 : Value).ownBlock ∧ k_ ≠ gb350)) (Kd.R_types (Kd.R_apart' (Kd.R_apart' (HO364.out) (Kd.R_typed HO353.out) (by decide)) (Kd.R_typed HO356.out) (by decide)) BK350.out (by decide)) (fun k_ hk => ⟨hk.1.1.1.1, ⟨hk.1.1.2, ⟨hk.1.2, hk.2⟩⟩⟩))))) (Reps.c8 (show Kd.FK k58 _ _ (⟨t367, t368, t369, t370, t371, (⟨t372, t375, t376⟩ : S56)⟩ : S58) [.int .i64 t367, .int .i64 t368, .int .i64 t369, .int .i64 t370, .int .i64 t371, .slice Ao16 t372.length co16, .int .i64 t375, .int .i64 t376] from (k58_mkF _ _ (⟨t367, t368, t369, t370, t371, (⟨t372, t375, t376⟩ : S56)⟩ : S58) (Kd.R_reads' (Kd.R_mono (ok' := (fun k_ => (w.heap.size ≤ k_) ∧ some k_ ≠ (v352 : Value).ownBlock ∧ some k_ ≠ (v355 : Value).ownBlock ∧ k_ ≠ gb350)) (Kd.R_types (Kd.R_apart' (Kd.R_apart' (HO374.out) (Kd.R_typed HO353.out) (by decide)) (Kd.R_typed HO356.out) (by decide)) BK350.out (by decide)) (fun k_ hk => ⟨hk.1.1.1.1, ⟨hk.1.1.2, ⟨hk.1.2, hk.2⟩⟩⟩))).2.1 (Kd.R_F (Kd.R_mono (ok' := (fun k_ => (w.heap.size ≤ k_) ∧ some k_ ≠ (v352 : Value).ownBlock ∧ some k_ ≠ (v355 : Value).ownBlock ∧ k_ ≠ gb350)) (Kd.R_types (Kd.R_apart' (Kd.R_apart' (HO374.out) (Kd.R_typed HO353.out) (by decide)) (Kd.R_typed HO356.out) (by decide)) BK350.out (by decide)) (fun k_ hk => ⟨hk.1.1.1.1, ⟨hk.1.1.2, ⟨hk.1.2, hk.2⟩⟩⟩))))) (Reps.c8 (show Kd.FK k58 _ _ (⟨t377, t378, t379, t380, t381, (⟨t382, t385, t386⟩ : S56)⟩ : S58) [.int .i64 t377, .int .i64 t378, .int .i64 t379, .int .i64 t380, .int .i64 t381, .slice Ao17 t382.length co17, .int .i64 t385, .int .i64 t386] from (k58_mkF _ _ (⟨t377, t378, t379, t380, t381, (⟨t382, t385, t386⟩ : S56)⟩ : S58) (Kd.R_reads' (Kd.R_mono (ok' := (fun k_ => (w.heap.size ≤ k_) ∧ some k_ ≠ (v352 : Value).ownBlock ∧ some k_ ≠ (v355 : Value).ownBlock ∧ k_ ≠ gb350)) (Kd.R_types (Kd.R_apart' (Kd.R_apart' (HO384.out) (Kd.R_typed HO353.out) (by decide)) (Kd.R_typed HO356.out) (by decide)) BK350.out (by decide)) (fun k_ hk => ⟨hk.1.1.1.1, ⟨hk.1.1.2, ⟨hk.1.2, hk.2⟩⟩⟩))).2.1 (Kd.R_F (Kd.R_mono (ok' := (fun k_ => (w.heap.size ≤ k_) ∧ some k_ ≠ (v352 : Value).ownBlock ∧ some k_ ≠ (v355 : Value).ownBlock ∧ k_ ≠ gb350)) (Kd.R_types (Kd.R_apart' (Kd.R_apart' (HO384.out) (Kd.R_typed HO353.out) (by decide)) (Kd.R_typed HO356.out) (by decide)) BK350.out (by decide)) (fun k_ hk => ⟨hk.1.1.1.1, ⟨hk.1.1.2, ⟨hk.1.2, hk.2⟩⟩⟩))))) (Reps.none _ _)))))
    intro v388 w18 ho19 hb hg_ hnew_; clear hg_ hnew_
    (first | rw [← Ny387.out] at ho19 | (simp only [Int.reduceToNat] at ho19; rw [← Ny387.out] at ho19))
    have n0_ := Aside0.mk (Kd.R_below (byR HO353.out) hb); have n1_ := Aside0.mk (Kd.R_below (byR HO356.out) hb); have n2_ := Aside0.mk (Kd.N_lower ho19 (below_size (byB1 HB.out GE350.out))); have n3_ := Aside0.mk (blk_below (g := gb350) (o := .cells #[.slice none 0 0, .slice none 0 0, .slice none 0 0] 37 (0, 0)) (byK BK350.out) hb); have n4_ := Aside0.mk (below_step (byB1 HB.out GE350.out) hb); clear HO353 HO356 BK350 HB HO364 HO374 HO384; have HO353 := n0_; have HO356 := n1_; have HO389 := n2_; have BK350 := n3_; have HB := n4_; clear n0_ n1_ n2_ n3_ n4_ hb ho19
    obtain ⟨Ao20, co20, eo20⟩ := Kd.N_slice HO389.out
    (first | subst eo20 | (injection eo20 with f1_ f2_ f3_; have f4_ := f1_.symm; have f5_ := f3_.symm; clear f1_ f2_ f3_; subst f4_; subst f5_))
    obtain ⟨Ao21, co21, eo21⟩ := Kd.R_slice HO356.out
    (first | subst eo21 | (injection eo21 with f1_ f2_ f3_; have f4_ := f1_.symm; have f5_ := f3_.symm; clear f1_ f2_ f3_; subst f4_; subst f5_))
    obtain ⟨Ao22, co22, eo22⟩ := Kd.R_slice HO353.out
    (first | subst eo22 | (injection eo22 with f1_ f2_ f3_; have f4_ := f1_.symm; have f5_ := f3_.symm; clear f1_ f2_ f3_; subst f4_; subst f5_))
    refine hK.out _ _ trivial (fun hHeld => ?_)
    clear hK K
    refine norm_ (a' := ?_) ?_ ?_
    rotate_left
    ·show Act.put _ (some 6) _ = _
     simp only [putW]; rfl
    exact norm_ (by first | (simp only [putAll, Act.put, List.setIfInBounds_toArray, List.set_cons_zero, List.set_cons_succ]; done) | (simp only [putAll, Act.put, List.setIfInBounds_toArray, List.set_cons_zero, List.set_cons_succ]; rfl)) (hJ0_1_2_3_4_5 (.slice Ao22 y351.length co22, .slice Ao21 y354.length co21, .slice Ao15 t362.length co15, .slice Ao16 t372.length co16, .slice Ao17 t382.length co17, .slice Ao20 y387.length co20) _ ⟨(byR HO353.out), (byR HO356.out), (byN HO389.out), (byK BK350.out), (byB1 HB.out GE350.out)⟩)
  rintro ⟨v352, v355, v363, v373, v383, v388⟩ w22 ⟨h0_, h1_, h2_, h3_, h4_⟩
  have n0_ : Aside0 (Kd.R (Kd.int .i64) 3 w22 w.heap.size (fun k_ => (w.heap.size ≤ k_)) v352 y351) := ⟨h0_⟩
  have n1_ : Aside0 (Kd.R k158 158 w22 w.heap.size (fun k_ => (w.heap.size ≤ k_)) v355 y354) := ⟨h1_⟩
  have n2_ : Aside0 (Kd.N k58 58 w22 w.heap.size (fun k_ => (w.heap.size ≤ k_) ∧ some k_ ≠ (v352 : Value).ownBlock ∧ some k_ ≠ (v355 : Value).ownBlock ∧ k_ ≠ gb350) v388 y387) := ⟨h2_⟩
  have n3_ : Aside0 (w22.heap[gb350]? = some (.cells #[.slice none 0 0, .slice none 0 0, .slice none 0 0] 37 (0, 0))) := ⟨h3_⟩
  have n4_ : Aside0 (Below w.heap.size w w22) := ⟨h4_⟩
  clear BK350 HB h0_ h1_ h2_ h3_ h4_; have HO353 := n0_; have HO356 := n1_; have HO389 := n2_; have BK350 := n3_; have HB := n4_; clear n0_ n1_ n2_ n3_ n4_; have hHeld := trivial
  obtain ⟨Ao23, co23, eo23⟩ := Kd.N_slice HO389.out
  (first | subst eo23 | (injection eo23 with f1_ f2_ f3_; have f4_ := f1_.symm; have f5_ := f3_.symm; clear f1_ f2_ f3_; subst f4_; subst f5_))
  obtain ⟨Ao24, co24, eo24⟩ := Kd.R_slice HO356.out
  (first | subst eo24 | (injection eo24 with f1_ f2_ f3_; have f4_ := f1_.symm; have f5_ := f3_.symm; clear f1_ f2_ f3_; subst f4_; subst f5_))
  obtain ⟨Ao25, co25, eo25⟩ := Kd.R_slice HO353.out
  (first | subst eo25 | (injection eo25 with f1_ f2_ f3_; have f4_ := f1_.symm; have f5_ := f3_.symm; clear f1_ f2_ f3_; subst f4_; subst f5_))
  refine norm_ (a' := ?_) ?_ ?_
  rotate_left
  ·simp only [putAll, Act.put, List.setIfInBounds_toArray, List.set_cons_zero, List.set_cons_succ]
   rfl
  refine q_ 6 7 HT_ ?_; refine one_ (i := 7) (N := none) (bits 8 255) rfl rfl (one_of HT_.out (by kernel_rfl)) (by decide) (fun K hK => ?_)
  have hs26 : w22.cell? ⟨gb350, 0, none⟩ = some (.slice none 0 0) := (blk_cell BK350.out 0).trans rfl
  have hfs26 := blk_frozen BK350.out 0
  have hs27 : w22.cell? ⟨gb350, 1, none⟩ = some (.slice none 0 0) := (blk_cell BK350.out 1).trans rfl
  have hfs27 := blk_frozen BK350.out 1
  have hs28 : w22.cell? ⟨gb350, 2, none⟩ = some (.slice none 0 0) := (blk_cell BK350.out 2).trans rfl
  have hfs28 := blk_frozen BK350.out 2
  refine skip_ (w1 := ?_) (by rfl) rfl ?_ ?_
  rotate_left; (·go_simp; rfl)
  refine hK.out _ _ trivial (fun hHeld => ?_)
  clear hK K
  refine done_ (done_of HT_.out (by kernel_rfl)) ?_
  try go_wp2
  refine bodyPost_ret (results_cell_row rfl _ _ gb350 37 #[.slice Ao25 y351.length co25, .slice Ao24 y354.length co24, .slice Ao23 y387.length co23] (0, 0) _ rfl (by (with_reducible repeat (first | refine blk_drewN ?_ _ | refine blk_drew ?_ | refine blk_alloc ?_ _)); refine blk_put (cs := #[.slice Ao25 y351.length co25, .slice Ao24 y354.length co24, .slice none 0 0]) ?_ 2 _ rfl; (with_reducible repeat (first | refine blk_drewN ?_ _ | refine blk_drew ?_ | refine blk_alloc ?_ _)); refine blk_put (cs := #[.slice Ao25 y351.length co25, .slice none 0 0, .slice none 0 0]) ?_ 1 _ rfl; (with_reducible repeat (first | refine blk_drewN ?_ _ | refine blk_drew ?_ | refine blk_alloc ?_ _)); refine blk_put (cs := #[.slice none 0 0, .slice none 0 0, .slice none 0 0]) ?_ 0 _ rfl; (with_reducible repeat (first | refine blk_drewN ?_ _ | refine blk_drew ?_ | refine blk_alloc ?_ _)); exact BK350.out) Try.underlying37 rfl (by kernel_rfl)) rfl ?_
  exact ⟨_, _, _, byE, by (with_reducible repeat (first | apply Kd.R_alloc | apply Kd.R_drewN | apply Kd.R_drew)); exact Kd.R_mono (Kd.R_far (p := ⟨gb350, 2, none⟩) (Kd.R_far (p := ⟨gb350, 1, none⟩) (Kd.R_far (p := ⟨gb350, 0, none⟩) (Kd.R_types HO353.out BK350.out (by decide)) (fun _ hk => hk.2) (.slice Ao25 y351.length co25)) (fun _ hk => hk.2) (.slice Ao24 y354.length co24)) (fun _ hk => hk.2) (.slice Ao23 y387.length co23)) (fun _ hk => hk.1), by (with_reducible repeat (first | apply Kd.R_alloc | apply Kd.R_drewN | apply Kd.R_drew)); exact Kd.R_mono (Kd.R_far (p := ⟨gb350, 2, none⟩) (Kd.R_far (p := ⟨gb350, 1, none⟩) (Kd.R_far (p := ⟨gb350, 0, none⟩) (Kd.R_types HO356.out BK350.out (by decide)) (fun _ hk => hk.2) (.slice Ao25 y351.length co25)) (fun _ hk => hk.2) (.slice Ao24 y354.length co24)) (fun _ hk => hk.2) (.slice Ao23 y387.length co23)) (fun _ hk => hk.1), by (with_reducible repeat (first | apply Kd.N_alloc | apply Kd.N_drewN | apply Kd.N_drew)); exact Kd.N_mono (Kd.N_far (p := ⟨gb350, 2, none⟩) (Kd.N_far (p := ⟨gb350, 1, none⟩) (Kd.N_far (p := ⟨gb350, 0, none⟩) (Kd.N_mono HO389.out (fun k_ hk => (⟨hk, hk.2.2.2⟩ : _ ∧ k_ ≠ gb350))) (fun _ hk => hk.2) (.slice Ao25 y351.length co25)) (fun _ hk => hk.2) (.slice Ao24 y354.length co24)) (fun _ hk => hk.2) (.slice Ao23 y387.length co23)) (fun _ hk => ⟨hk.1.1, ⟨hk.1.2.1, hk.1.2.2.1⟩⟩), byB1 HB.out GE350.out⟩
 ·rw [if_neg c1] at H
  exact absurd H (by simp)
end Go.Proofs.Ytaodlehnfjalnaa.Print
