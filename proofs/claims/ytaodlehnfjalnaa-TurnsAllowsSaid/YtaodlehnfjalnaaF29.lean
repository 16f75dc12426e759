/- Written by a program of this claim's author (xprint.py, over the kit's print.py): the call of mapmaker/mapmakerlaw47.cross comes to what the Lean function of its name says. -/
import Derived.Test.YtaodlehnfjalnaaPrint0
import Derived.Test.YtaodlehnfjalnaaM12
import Derived.Test.YtaodlehnfjalnaaM0
namespace Go.Proofs.Ytaodlehnfjalnaa.Print
open Go.RowKit Go.Proofs.YtaodlehnfjalnaaW.PrintWords Go.Proofs.YtaodlehnfjalnaaW.PrintLast Go.Proofs.YtaodlehnfjalnaaW.PrintMore
attribute [local go_sem] max2_int min2_int max_two min_two max_three min_three max_four min_four   -- for this text's walks alone
set_option linter.unusedVariables false
set_option linter.unusedSimpArgs false
/-! ### mapmakerlaw47_cross: function 29 -/
def mapmakerlaw47_cross.f  : Option (List Int × (List (S158)) × (List (S58))) := if 4 ≤ 17592186044416 then ((mapmakerlaw47_piece.f 0 1 1).bind fun bt310 => ((mapmakerlaw47_piece.f 1 2 3).bind fun bt320 => ((mapmakerlaw47_piece.f 1 3 4).bind fun bt330 => (some ((([1, 2, 3, 4] : List Int)), (List.replicate 4 z158), (([(⟨bt310.1, bt310.2.1, bt310.2.2.1, bt310.2.2.2.1, bt310.2.2.2.2.1, (⟨bt310.2.2.2.2.2.1, bt310.2.2.2.2.2.2.1, bt310.2.2.2.2.2.2.2⟩ : S56)⟩ : S58), (⟨bt320.1, bt320.2.1, bt320.2.2.1, bt320.2.2.2.1, bt320.2.2.2.2.1, (⟨bt320.2.2.2.2.2.1, bt320.2.2.2.2.2.2.1, bt320.2.2.2.2.2.2.2⟩ : S56)⟩ : S58), (⟨bt330.1, bt330.2.1, bt330.2.2.1, bt330.2.2.2.1, bt330.2.2.2.2.1, (⟨bt330.2.2.2.2.2.1, bt330.2.2.2.2.2.2.1, bt330.2.2.2.2.2.2.2⟩ : S56)⟩ : S58)] : List (S58)))))))) else (none)
def mapmakerlaw47_cross.T1 : Bool × List (List Nat × List Nat) := (true, [([], []), ([], []), ([], []), ([2], []), ([3], []), ([2, 3, 4], [2, 3, 4]), ([0, 1, 5], [0, 1, 5]), ([6, 4, 0, 1, 2, 3, 4, 5, 6], [6])])
def mapmakerlaw47_cross.B1 : List Nat := [0, 0, 0, 4, 12, 28, 63, 127]
theorem mapmakerlaw47_cross.tab1 : rtab .any (opsOf Try.f29 1) = mapmakerlaw47_cross.T1 := by kernel_rfl
theorem mapmakerlaw47_cross.bits1 : waitsOk mapmakerlaw47_cross.T1.2 mapmakerlaw47_cross.B1 = true := by kernel_rfl
set_option maxHeartbeats 8000000 in
set_option maxRecDepth 100000 in
theorem mapmakerlaw47_cross.calls  (r1 : List Int) (r2 : List (S158)) (r3 : List (S58)) (w : World) (h : mapmakerlaw47_cross.f  = some (r1, r2, r3)) :
  Calls Try.prog 29 #[] w fun e w' => ∃ v0_ v1_ v2_ : Value, e = .returned (.agg #[v0_, v1_, v2_]) ∧ Kd.R (Kd.int .i64) 3 w' w.heap.size (fun k_ => (w.heap.size ≤ k_)) v0_ r1 ∧ Kd.R k158 158 w' w.heap.size (fun k_ => (w.heap.size ≤ k_)) v1_ r2 ∧ Kd.N k58 58 w' w.heap.size (fun k_ => (w.heap.size ≤ k_) ∧ some k_ ≠ (v0_ : Value).ownBlock ∧ some k_ ≠ (v1_ : Value).ownBlock) v2_ r3 ∧ Below w.heap.size w w' := by
 have hu37 := Try.underlying37; have HB := Aside0.mk (Below.refl w.heap.size w)
 have H : (if 4 ≤ 17592186044416 then ((mapmakerlaw47_piece.f 0 1 1).bind fun bt310 => ((mapmakerlaw47_piece.f 1 2 3).bind fun bt320 => ((mapmakerlaw47_piece.f 1 3 4).bind fun bt330 => (some ((([1, 2, 3, 4] : List Int)), (List.replicate 4 z158), (([(⟨bt310.1, bt310.2.1, bt310.2.2.1, bt310.2.2.2.1, bt310.2.2.2.2.1, (⟨bt310.2.2.2.2.2.1, bt310.2.2.2.2.2.2.1, bt310.2.2.2.2.2.2.2⟩ : S56)⟩ : S58), (⟨bt320.1, bt320.2.1, bt320.2.2.1, bt320.2.2.2.1, bt320.2.2.2.2.1, (⟨bt320.2.2.2.2.2.1, bt320.2.2.2.2.2.2.1, bt320.2.2.2.2.2.2.2⟩ : S56)⟩ : S58), (⟨bt330.1, bt330.2.1, bt330.2.2.1, bt330.2.2.2.1, bt330.2.2.2.2.1, (⟨bt330.2.2.2.2.2.1, bt330.2.2.2.2.2.2.1, bt330.2.2.2.2.2.2.2⟩ : S56)⟩ : S58)] : List (S58)))))))) else (none)) = some (r1, r2, r3) := h
 clear h
 obtain ⟨y304, hy304⟩ : ∃ y_ : List Int, y_ = (([1, 2, 3, 4] : List Int)) := ⟨_, rfl⟩
 replace H : (if 4 ≤ 17592186044416 then ((mapmakerlaw47_piece.f 0 1 1).bind fun bt310 => ((mapmakerlaw47_piece.f 1 2 3).bind fun bt320 => ((mapmakerlaw47_piece.f 1 3 4).bind fun bt330 => (some (y304, (List.replicate 4 z158), (([(⟨bt310.1, bt310.2.1, bt310.2.2.1, bt310.2.2.2.1, bt310.2.2.2.2.1, (⟨bt310.2.2.2.2.2.1, bt310.2.2.2.2.2.2.1, bt310.2.2.2.2.2.2.2⟩ : S56)⟩ : S58), (⟨bt320.1, bt320.2.1, bt320.2.2.1, bt320.2.2.2.1, bt320.2.2.2.2.1, (⟨bt320.2.2.2.2.2.1, bt320.2.2.2.2.2.2.1, bt320.2.2.2.2.2.2.2⟩ : S56)⟩ : S58), (⟨bt330.1, bt330.2.1, bt330.2.2.1, bt330.2.2.2.1, bt330.2.2.2.2.1, (⟨bt330.2.2.2.2.2.1, bt330.2.2.2.2.2.2.1, bt330.2.2.2.2.2.2.2⟩ : S56)⟩ : S58)] : List (S58)))))))) else (none)) = some (r1, r2, r3) := by first | (rw [hy304]; with_reducible exact H) | (have H2_ := (Option.bind_some _ _).symm.trans H; rw [hy304]; with_reducible exact H2_) | (have H2_ := (Option.bind_some _ _).symm.trans H; with_reducible exact H2_) | with_reducible exact H | (rw [hy304]; exact H) | exact H
 have Ny304 := Aside0.mk hy304; clear hy304
 by_cases c1 : 4 ≤ 17592186044416
 ·rw [if_pos c1] at H
  have c1b0 := eq_true c1
  have c1b1 : decide (4 ≤ 17592186044416) = true := decide_eq_true c1
  clear c1
  obtain ⟨y307, hy307⟩ : ∃ y_ : List (S158), y_ = (List.replicate 4 z158) := ⟨_, rfl⟩
  replace H : ((mapmakerlaw47_piece.f 0 1 1).bind fun bt310 => ((mapmakerlaw47_piece.f 1 2 3).bind fun bt320 => ((mapmakerlaw47_piece.f 1 3 4).bind fun bt330 => (some (y304, y307, (([(⟨bt310.1, bt310.2.1, bt310.2.2.1, bt310.2.2.2.1, bt310.2.2.2.2.1, (⟨bt310.2.2.2.2.2.1, bt310.2.2.2.2.2.2.1, bt310.2.2.2.2.2.2.2⟩ : S56)⟩ : S58), (⟨bt320.1, bt320.2.1, bt320.2.2.1, bt320.2.2.2.1, bt320.2.2.2.2.1, (⟨bt320.2.2.2.2.2.1, bt320.2.2.2.2.2.2.1, bt320.2.2.2.2.2.2.2⟩ : S56)⟩ : S58), (⟨bt330.1, bt330.2.1, bt330.2.2.1, bt330.2.2.2.1, bt330.2.2.2.2.1, (⟨bt330.2.2.2.2.2.1, bt330.2.2.2.2.2.2.1, bt330.2.2.2.2.2.2.2⟩ : S56)⟩ : S58)] : List (S58)))))))) = some (r1, r2, r3) := by first | (rw [hy307]; with_reducible exact H) | (have H2_ := (Option.bind_some _ _).symm.trans H; rw [hy307]; with_reducible exact H2_) | (have H2_ := (Option.bind_some _ _).symm.trans H; with_reducible exact H2_) | with_reducible exact H | (rw [hy307]; exact H) | exact H
  have Ny307 := Aside0.mk hy307; clear hy307
  replace H := Option.bind_eq_some_iff.mp H
  obtain ⟨⟨t310, t311, t312, t313, t314, t315, t318, t319⟩, A20, H⟩ := H
  replace H : ((mapmakerlaw47_piece.f 1 2 3).bind fun bt320 => ((mapmakerlaw47_piece.f 1 3 4).bind fun bt330 => (some (y304, y307, (([(⟨t310, t311, t312, t313, t314, (⟨t315, t318, t319⟩ : S56)⟩ : S58), (⟨bt320.1, bt320.2.1, bt320.2.2.1, bt320.2.2.2.1, bt320.2.2.2.2.1, (⟨bt320.2.2.2.2.2.1, bt320.2.2.2.2.2.2.1, bt320.2.2.2.2.2.2.2⟩ : S56)⟩ : S58), (⟨bt330.1, bt330.2.1, bt330.2.2.1, bt330.2.2.2.1, bt330.2.2.2.2.1, (⟨bt330.2.2.2.2.2.1, bt330.2.2.2.2.2.2.1, bt330.2.2.2.2.2.2.2⟩ : S56)⟩ : S58)] : List (S58))))))) = some (r1, r2, r3) := H
  have A2 := Aside0.mk A20; clear A20
  replace H := Option.bind_eq_some_iff.mp H
  obtain ⟨⟨t320, t321, t322, t323, t324, t325, t328, t329⟩, A30, H⟩ := H
  replace H : ((mapmakerlaw47_piece.f 1 3 4).bind fun bt330 => (some (y304, y307, (([(⟨t310, t311, t312, t313, t314, (⟨t315, t318, t319⟩ : S56)⟩ : S58), (⟨t320, t321, t322, t323, t324, (⟨t325, t328, t329⟩ : S56)⟩ : S58), (⟨bt330.1, bt330.2.1, bt330.2.2.1, bt330.2.2.2.1, bt330.2.2.2.2.1, (⟨bt330.2.2.2.2.2.1, bt330.2.2.2.2.2.2.1, bt330.2.2.2.2.2.2.2⟩ : S56)⟩ : S58)] : List (S58)))))) = some (r1, r2, r3) := H
  have A3 := Aside0.mk A30; clear A30
  replace H := Option.bind_eq_some_iff.mp H
  obtain ⟨⟨t330, t331, t332, t333, t334, t335, t338, t339⟩, A40, H⟩ := H
  replace H : (some (y304, y307, (([(⟨t310, t311, t312, t313, t314, (⟨t315, t318, t319⟩ : S56)⟩ : S58), (⟨t320, t321, t322, t323, t324, (⟨t325, t328, t329⟩ : S56)⟩ : S58), (⟨t330, t331, t332, t333, t334, (⟨t335, t338, t339⟩ : S56)⟩ : S58)] : List (S58))))) = some (r1, r2, r3) := H
  have A4 := Aside0.mk A40; clear A40
  obtain ⟨y340, hy340⟩ : ∃ y_ : List (S58), y_ = (([(⟨t310, t311, t312, t313, t314, (⟨t315, t318, t319⟩ : S56)⟩ : S58), (⟨t320, t321, t322, t323, t324, (⟨t325, t328, t329⟩ : S56)⟩ : S58), (⟨t330, t331, t332, t333, t334, (⟨t335, t338, t339⟩ : S56)⟩ : S58)] : List (S58))) := ⟨_, rfl⟩
  replace H : (some (y304, y307, y340)) = some (r1, r2, r3) := by first | (rw [hy340]; with_reducible exact H) | (have H2_ := (Option.bind_some _ _).symm.trans H; rw [hy340]; with_reducible exact H2_) | (have H2_ := (Option.bind_some _ _).symm.trans H; with_reducible exact H2_) | with_reducible exact H | (rw [hy340]; exact H) | exact H
  have Ny340 := Aside0.mk hy340; clear hy340
  simp only [Option.some.injEq, Prod.mk.injEq] at H
  obtain ⟨rfl, rfl, rfl⟩ := H
  go_enter Try.func29, Try.ntmps29
  try go_wp2_with (first | ((with_reducible refine gate_dst (N := 0) rfl ?_); refine box_event ?hg (N := 0) ?hd (cs := #[.slice none 0 0, .slice none 0 0, .slice none 0 0]) (t := 37) ?hr ?_; (case hd => rfl); (case hg => rfl); (case hr => first | (go_simp; done) | (go_simp; rfl)); intro gb303 hg w5 hbox hb; have n0_ := Aside0.mk (below_step (byB HB.out) hb); have n1_ := Aside0.mk (hbox); have n2_ := Aside0.mk ((by rw [hg]; exact (below_size (byB HB.out)) : w.heap.size ≤ gb303)); have n3_ := Aside0.mk ((by rw [hg]; exact (below_size (byB HB.out)) : w.heap.size ≤ gb303)); clear HB; have HB := n0_; have BK303 := n1_; have GW303 := n2_; have GE303 := n3_; clear n0_ n1_ n2_ n3_ hb hbox hg))
  have n0_ := Aside0.mk (blk_drew BK303.out); have n1_ := Aside0.mk (below_drew1 HB.out); clear BK303 HB; have BK303 := n0_; have HB := n1_; clear n0_ n1_
  refine start_ (n := 8) (S := fun w' => True) (ds := []) (bits 8 0) (by kernel_rfl) rfl rfl trivial (fun hHeld => ?_); refine with_tabW mapmakerlaw47_cross.tab1 mapmakerlaw47_cross.bits1 (fun HT_ HW_ => ?_)
  generalize w5.drew = w6 at BK303 HB hHeld ⊢
  refine join_ (σ := Value × Value × Value × Value × Value × Value) 2 (bits 8 63) (fun s_ => [(1, s_.1), (2, s_.2.1), (3, .agg #[.int .i64 t310, .int .i64 t311, .int .i64 t312, .int .i64 t313, .int .i64 t314, s_.2.2.1, .int .i64 t318, .int .i64 t319]), (4, .agg #[.int .i64 t320, .int .i64 t321, .int .i64 t322, .int .i64 t323, .int .i64 t324, s_.2.2.2.1, .int .i64 t328, .int .i64 t329]), (5, .agg #[.int .i64 t330, .int .i64 t331, .int .i64 t332, .int .i64 t333, .int .i64 t334, s_.2.2.2.2.1, .int .i64 t338, .int .i64 t339]), (6, s_.2.2.2.2.2)]) (fun s_ w' => (Kd.R (Kd.int .i64) 3 w' w.heap.size (fun k_ => (w.heap.size ≤ k_)) s_.1 y304) ∧ (Kd.R k158 158 w' w.heap.size (fun k_ => (w.heap.size ≤ k_)) s_.2.1 y307) ∧ (Kd.N k58 58 w' w.heap.size (fun k_ => (w.heap.size ≤ k_) ∧ some k_ ≠ (s_.1 : Value).ownBlock ∧ some k_ ≠ (s_.2.1 : Value).ownBlock ∧ k_ ≠ gb303) s_.2.2.2.2.2 y340) ∧ (w'.heap[gb303]? = some (.cells #[.slice none 0 0, .slice none 0 0, .slice none 0 0] 37 (0, 0))) ∧ (Below w.heap.size w w')) ?_ ?_
  rotate_left
  ·intro hJ0_1_2_3_4_5
   refine join_ (σ := Value × Value × Value × Value × Value) 3 (bits 8 31) (fun s_ => [(1, s_.1), (2, s_.2.1), (3, .agg #[.int .i64 t310, .int .i64 t311, .int .i64 t312, .int .i64 t313, .int .i64 t314, s_.2.2.1, .int .i64 t318, .int .i64 t319]), (4, .agg #[.int .i64 t320, .int .i64 t321, .int .i64 t322, .int .i64 t323, .int .i64 t324, s_.2.2.2.1, .int .i64 t328, .int .i64 t329]), (5, .agg #[.int .i64 t330, .int .i64 t331, .int .i64 t332, .int .i64 t333, .int .i64 t334, s_.2.2.2.2, .int .i64 t338, .int .i64 t339])]) (fun s_ w' => (Kd.R (Kd.int .i64) 3 w' w.heap.size (fun k_ => (w.heap.size ≤ k_)) s_.1 y304) ∧ (Kd.R k158 158 w' w.heap.size (fun k_ => (w.heap.size ≤ k_)) s_.2.1 y307) ∧ (Kd.R k120 120 w' w.heap.size (fun k_ => (w.heap.size ≤ k_) ∧ some k_ ≠ (s_.2.2.2.1 : Value).ownBlock ∧ some k_ ≠ (s_.2.2.2.2 : Value).ownBlock) s_.2.2.1 t315) ∧ (Kd.R k120 120 w' w.heap.size (fun k_ => (w.heap.size ≤ k_) ∧ some k_ ≠ (s_.2.2.1 : Value).ownBlock ∧ some k_ ≠ (s_.2.2.2.2 : Value).ownBlock) s_.2.2.2.1 t325) ∧ (Kd.R k120 120 w' w.heap.size (fun k_ => (w.heap.size ≤ k_) ∧ some k_ ≠ (s_.2.2.1 : Value).ownBlock ∧ some k_ ≠ (s_.2.2.2.1 : Value).ownBlock) s_.2.2.2.2 t335) ∧ (w'.heap[gb303]? = some (.cells #[.slice none 0 0, .slice none 0 0, .slice none 0 0] 37 (0, 0))) ∧ (Below w.heap.size w w')) ?_ ?_
   rotate_left
   ·intro hJ0_1_2_3_4
    refine join_ (σ := Value × Value × Value × Value × Value) 3 (bits 8 61) (fun s_ => [(1, s_.1), (3, .agg #[.int .i64 t310, .int .i64 t311, .int .i64 t312, .int .i64 t313, .int .i64 t314, s_.2.1, .int .i64 t318, .int .i64 t319]), (4, .agg #[.int .i64 t320, .int .i64 t321, .int .i64 t322, .int .i64 t323, .int .i64 t324, s_.2.2.1, .int .i64 t328, .int .i64 t329]), (5, .agg #[.int .i64 t330, .int .i64 t331, .int .i64 t332, .int .i64 t333, .int .i64 t334, s_.2.2.2.1, .int .i64 t338, .int .i64 t339]), (6, s_.2.2.2.2)]) (fun s_ w' => (Kd.R (Kd.int .i64) 3 w' w.heap.size (fun k_ => (w.heap.size ≤ k_)) s_.1 y304) ∧ (Kd.N k58 58 w' w.heap.size (fun k_ => (w.heap.size ≤ k_) ∧ some k_ ≠ (s_.1 : Value).ownBlock ∧ k_ ≠ gb303) s_.2.2.2.2 y340) ∧ (w'.heap[gb303]? = some (.cells #[.slice none 0 0, .slice none 0 0, .slice none 0 0] 37 (0, 0))) ∧ (Below w.heap.size w w')) ?_ ?_
    rotate_left
    ·intro hJ0_2_3_4_5
     refine join_ (σ := Value × Value × Value × Value × Value) 3 (bits 8 62) (fun s_ => [(2, s_.1), (3, .agg #[.int .i64 t310, .int .i64 t311, .int .i64 t312, .int .i64 t313, .int .i64 t314, s_.2.1, .int .i64 t318, .int .i64 t319]), (4, .agg #[.int .i64 t320, .int .i64 t321, .int .i64 t322, .int .i64 t323, .int .i64 t324, s_.2.2.1, .int .i64 t328, .int .i64 t329]), (5, .agg #[.int .i64 t330, .int .i64 t331, .int .i64 t332, .int .i64 t333, .int .i64 t334, s_.2.2.2.1, .int .i64 t338, .int .i64 t339]), (6, s_.2.2.2.2)]) (fun s_ w' => (Kd.R k158 158 w' w.heap.size (fun k_ => (w.heap.size ≤ k_)) s_.1 y307) ∧ (Kd.N k58 58 w' w.heap.size (fun k_ => (w.heap.size ≤ k_) ∧ some k_ ≠ (s_.1 : Value).ownBlock ∧ k_ ≠ gb303) s_.2.2.2.2 y340) ∧ (w'.heap[gb303]? = some (.cells #[.slice none 0 0, .slice none 0 0, .slice none 0 0] 37 (0, 0))) ∧ (Below w.heap.size w w')) ?_ ?_
     rotate_left
     ·intro hJ1_2_3_4_5
      refine join_ (σ := Value × Value × Value × Value) 4 (bits 8 15) (fun s_ => [(1, s_.1), (2, s_.2.1), (3, .agg #[.int .i64 t310, .int .i64 t311, .int .i64 t312, .int .i64 t313, .int .i64 t314, s_.2.2.1, .int .i64 t318, .int .i64 t319]), (4, .agg #[.int .i64 t320, .int .i64 t321, .int .i64 t322, .int .i64 t323, .int .i64 t324, s_.2.2.2, .int .i64 t328, .int .i64 t329])]) (fun s_ w' => (Kd.R (Kd.int .i64) 3 w' w.heap.size (fun k_ => (w.heap.size ≤ k_)) s_.1 y304) ∧ (Kd.R k158 158 w' w.heap.size (fun k_ => (w.heap.size ≤ k_)) s_.2.1 y307) ∧ (Kd.R k120 120 w' w.heap.size (fun k_ => (w.heap.size ≤ k_) ∧ some k_ ≠ (s_.2.2.2 : Value).ownBlock) s_.2.2.1 t315) ∧ (Kd.R k120 120 w' w.heap.size (fun k_ => (w.heap.size ≤ k_) ∧ some k_ ≠ (s_.2.2.1 : Value).ownBlock) s_.2.2.2 t325) ∧ (w'.heap[gb303]? = some (.cells #[.slice none 0 0, .slice none 0 0, .slice none 0 0] 37 (0, 0))) ∧ (Below w.heap.size w w')) ?_ ?_
      rotate_left
      ·intro hJ0_1_2_3
       refine join_ (σ := Value × Value × Value × Value) 4 (bits 8 29) (fun s_ => [(1, s_.1), (3, .agg #[.int .i64 t310, .int .i64 t311, .int .i64 t312, .int .i64 t313, .int .i64 t314, s_.2.1, .int .i64 t318, .int .i64 t319]), (4, .agg #[.int .i64 t320, .int .i64 t321, .int .i64 t322, .int .i64 t323, .int .i64 t324, s_.2.2.1, .int .i64 t328, .int .i64 t329]), (5, .agg #[.int .i64 t330, .int .i64 t331, .int .i64 t332, .int .i64 t333, .int .i64 t334, s_.2.2.2, .int .i64 t338, .int .i64 t339])]) (fun s_ w' => (Kd.R (Kd.int .i64) 3 w' w.heap.size (fun k_ => (w.heap.size ≤ k_)) s_.1 y304) ∧ (Kd.R k120 120 w' w.heap.size (fun k_ => (w.heap.size ≤ k_) ∧ some k_ ≠ (s_.2.2.1 : Value).ownBlock ∧ some k_ ≠ (s_.2.2.2 : Value).ownBlock) s_.2.1 t315) ∧ (Kd.R k120 120 w' w.heap.size (fun k_ => (w.heap.size ≤ k_) ∧ some k_ ≠ (s_.2.1 : Value).ownBlock ∧ some k_ ≠ (s_.2.2.2 : Value).ownBlock) s_.2.2.1 t325) ∧ (Kd.R k120 120 w' w.heap.size (fun k_ => (w.heap.size ≤ k_) ∧ some k_ ≠ (s_.2.1 : Value).ownBlock ∧ some k_ ≠ (s_.2.2.1 : Value).ownBlock) s_.2.2.2 t335) ∧ (w'.heap[gb303]? = some (.cells #[.slice none 0 0, .slice none 0 0, .slice none 0 0] 37 (0, 0))) ∧ (Below w.heap.size w w')) ?_ ?_
       rotate_left
       ·intro hJ0_2_3_4
        refine join_ (σ := Value × Value × Value × Value) 4 (bits 8 30) (fun s_ => [(2, s_.1), (3, .agg #[.int .i64 t310, .int .i64 t311, .int .i64 t312, .int .i64 t313, .int .i64 t314, s_.2.1, .int .i64 t318, .int .i64 t319]), (4, .agg #[.int .i64 t320, .int .i64 t321, .int .i64 t322, .int .i64 t323, .int .i64 t324, s_.2.2.1, .int .i64 t328, .int .i64 t329]), (5, .agg #[.int .i64 t330, .int .i64 t331, .int .i64 t332, .int .i64 t333, .int .i64 t334, s_.2.2.2, .int .i64 t338, .int .i64 t339])]) (fun s_ w' => (Kd.R k158 158 w' w.heap.size (fun k_ => (w.heap.size ≤ k_)) s_.1 y307) ∧ (Kd.R k120 120 w' w.heap.size (fun k_ => (w.heap.size ≤ k_) ∧ some k_ ≠ (s_.2.2.1 : Value).ownBlock ∧ some k_ ≠ (s_.2.2.2 : Value).ownBlock) s_.2.1 t315) ∧ (Kd.R k120 120 w' w.heap.size (fun k_ => (w.heap.size ≤ k_) ∧ some k_ ≠ (s_.2.1 : Value).ownBlock ∧ some k_ ≠ (s_.2.2.2 : Value).ownBlock) s_.2.2.1 t325) ∧ (Kd.R k120 120 w' w.heap.size (fun k_ => (w.heap.size ≤ k_) ∧ some k_ ≠ (s_.2.1 : Value).ownBlock ∧ some k_ ≠ (s_.2.2.1 : Value).ownBlock) s_.2.2.2 t335) ∧ (w'.heap[gb303]? = some (.cells #[.slice none 0 0, .slice none 0 0, .slice none 0 0] 37 (0, 0))) ∧ (Below w.heap.size w w')) ?_ ?_
        rotate_left
        ·intro hJ1_2_3_4
         refine join_ (σ := Value × Value × Value × Value) 4 (bits 8 60) (fun s_ => [(3, .agg #[.int .i64 t310, .int .i64 t311, .int .i64 t312, .int .i64 t313, .int .i64 t314, s_.1, .int .i64 t318, .int .i64 t319]), (4, .agg #[.int .i64 t320, .int .i64 t321, .int .i64 t322, .int .i64 t323, .int .i64 t324, s_.2.1, .int .i64 t328, .int .i64 t329]), (5, .agg #[.int .i64 t330, .int .i64 t331, .int .i64 t332, .int .i64 t333, .int .i64 t334, s_.2.2.1, .int .i64 t338, .int .i64 t339]), (6, s_.2.2.2)]) (fun s_ w' => (Kd.N k58 58 w' w.heap.size (fun k_ => (w.heap.size ≤ k_) ∧ k_ ≠ gb303) s_.2.2.2 y340) ∧ (w'.heap[gb303]? = some (.cells #[.slice none 0 0, .slice none 0 0, .slice none 0 0] 37 (0, 0))) ∧ (Below w.heap.size w w')) ?_ ?_
         rotate_left
         ·intro hJ2_3_4_5
          refine join_ (σ := Value × Value × Value) 5 (bits 8 7) (fun s_ => [(1, s_.1), (2, s_.2.1), (3, .agg #[.int .i64 t310, .int .i64 t311, .int .i64 t312, .int .i64 t313, .int .i64 t314, s_.2.2, .int .i64 t318, .int .i64 t319])]) (fun s_ w' => (Kd.R (Kd.int .i64) 3 w' w.heap.size (fun k_ => (w.heap.size ≤ k_)) s_.1 y304) ∧ (Kd.R k158 158 w' w.heap.size (fun k_ => (w.heap.size ≤ k_)) s_.2.1 y307) ∧ (Kd.R k120 120 w' w.heap.size (fun k_ => (w.heap.size ≤ k_)) s_.2.2 t315) ∧ (w'.heap[gb303]? = some (.cells #[.slice none 0 0, .slice none 0 0, .slice none 0 0] 37 (0, 0))) ∧ (Below w.heap.size w w')) ?_ ?_
          rotate_left
          ·intro hJ0_1_2
           refine join_ (σ := Value × Value × Value) 5 (bits 8 13) (fun s_ => [(1, s_.1), (3, .agg #[.int .i64 t310, .int .i64 t311, .int .i64 t312, .int .i64 t313, .int .i64 t314, s_.2.1, .int .i64 t318, .int .i64 t319]), (4, .agg #[.int .i64 t320, .int .i64 t321, .int .i64 t322, .int .i64 t323, .int .i64 t324, s_.2.2, .int .i64 t328, .int .i64 t329])]) (fun s_ w' => (Kd.R (Kd.int .i64) 3 w' w.heap.size (fun k_ => (w.heap.size ≤ k_)) s_.1 y304) ∧ (Kd.R k120 120 w' w.heap.size (fun k_ => (w.heap.size ≤ k_) ∧ some k_ ≠ (s_.2.2 : Value).ownBlock) s_.2.1 t315) ∧ (Kd.R k120 120 w' w.heap.size (fun k_ => (w.heap.size ≤ k_) ∧ some k_ ≠ (s_.2.1 : Value).ownBlock) s_.2.2 t325) ∧ (w'.heap[gb303]? = some (.cells #[.slice none 0 0, .slice none 0 0, .slice none 0 0] 37 (0, 0))) ∧ (Below w.heap.size w w')) ?_ ?_
           rotate_left
           ·intro hJ0_2_3
            refine join_ (σ := Value × Value × Value) 5 (bits 8 14) (fun s_ => [(2, s_.1), (3, .agg #[.int .i64 t310, .int .i64 t311, .int .i64 t312, .int .i64 t313, .int .i64 t314, s_.2.1, .int .i64 t318, .int .i64 t319]), (4, .agg #[.int .i64 t320, .int .i64 t321, .int .i64 t322, .int .i64 t323, .int .i64 t324, s_.2.2, .int .i64 t328, .int .i64 t329])]) (fun s_ w' => (Kd.R k158 158 w' w.heap.size (fun k_ => (w.heap.size ≤ k_)) s_.1 y307) ∧ (Kd.R k120 120 w' w.heap.size (fun k_ => (w.heap.size ≤ k_) ∧ some k_ ≠ (s_.2.2 : Value).ownBlock) s_.2.1 t315) ∧ (Kd.R k120 120 w' w.heap.size (fun k_ => (w.heap.size ≤ k_) ∧ some k_ ≠ (s_.2.1 : Value).ownBlock) s_.2.2 t325) ∧ (w'.heap[gb303]? = some (.cells #[.slice none 0 0, .slice none 0 0, .slice none 0 0] 37 (0, 0))) ∧ (Below w.heap.size w w')) ?_ ?_
            rotate_left
            ·intro hJ1_2_3
             refine join_ (σ := Value × Value × Value) 5 (bits 8 28) (fun s_ => [(3, .agg #[.int .i64 t310, .int .i64 t311, .int .i64 t312, .int .i64 t313, .int .i64 t314, s_.1, .int .i64 t318, .int .i64 t319]), (4, .agg #[.int .i64 t320, .int .i64 t321, .int .i64 t322, .int .i64 t323, .int .i64 t324, s_.2.1, .int .i64 t328, .int .i64 t329]), (5, .agg #[.int .i64 t330, .int .i64 t331, .int .i64 t332, .int .i64 t333, .int .i64 t334, s_.2.2, .int .i64 t338, .int .i64 t339])]) (fun s_ w' => (Kd.R k120 120 w' w.heap.size (fun k_ => (w.heap.size ≤ k_) ∧ some k_ ≠ (s_.2.1 : Value).ownBlock ∧ some k_ ≠ (s_.2.2 : Value).ownBlock) s_.1 t315) ∧ (Kd.R k120 120 w' w.heap.size (fun k_ => (w.heap.size ≤ k_) ∧ some k_ ≠ (s_.1 : Value).ownBlock ∧ some k_ ≠ (s_.2.2 : Value).ownBlock) s_.2.1 t325) ∧ (Kd.R k120 120 w' w.heap.size (fun k_ => (w.heap.size ≤ k_) ∧ some k_ ≠ (s_.1 : Value).ownBlock ∧ some k_ ≠ (s_.2.1 : Value).ownBlock) s_.2.2 t335) ∧ (w'.heap[gb303]? = some (.cells #[.slice none 0 0, .slice none 0 0, .slice none 0 0] 37 (0, 0))) ∧ (Below w.heap.size w w')) ?_ ?_
             rotate_left
             ·intro hJ2_3_4
              refine join_ (σ := Value × Value) 6 (bits 8 3) (fun s_ => [(1, s_.1), (2, s_.2)]) (fun s_ w' => (Kd.R (Kd.int .i64) 3 w' w.heap.size (fun k_ => (w.heap.size ≤ k_)) s_.1 y304) ∧ (Kd.R k158 158 w' w.heap.size (fun k_ => (w.heap.size ≤ k_)) s_.2 y307) ∧ (w'.heap[gb303]? = some (.cells #[.slice none 0 0, .slice none 0 0, .slice none 0 0] 37 (0, 0))) ∧ (Below w.heap.size w w')) ?_ ?_
              rotate_left
              ·intro hJ0_1
               refine join_ (σ := Value × Value) 6 (bits 8 5) (fun s_ => [(1, s_.1), (3, .agg #[.int .i64 t310, .int .i64 t311, .int .i64 t312, .int .i64 t313, .int .i64 t314, s_.2, .int .i64 t318, .int .i64 t319])]) (fun s_ w' => (Kd.R (Kd.int .i64) 3 w' w.heap.size (fun k_ => (w.heap.size ≤ k_)) s_.1 y304) ∧ (Kd.R k120 120 w' w.heap.size (fun k_ => (w.heap.size ≤ k_)) s_.2 t315) ∧ (w'.heap[gb303]? = some (.cells #[.slice none 0 0, .slice none 0 0, .slice none 0 0] 37 (0, 0))) ∧ (Below w.heap.size w w')) ?_ ?_
               rotate_left
               ·intro hJ0_2
                refine join_ (σ := Value × Value) 6 (bits 8 6) (fun s_ => [(2, s_.1), (3, .agg #[.int .i64 t310, .int .i64 t311, .int .i64 t312, .int .i64 t313, .int .i64 t314, s_.2, .int .i64 t318, .int .i64 t319])]) (fun s_ w' => (Kd.R k158 158 w' w.heap.size (fun k_ => (w.heap.size ≤ k_)) s_.1 y307) ∧ (Kd.R k120 120 w' w.heap.size (fun k_ => (w.heap.size ≤ k_)) s_.2 t315) ∧ (w'.heap[gb303]? = some (.cells #[.slice none 0 0, .slice none 0 0, .slice none 0 0] 37 (0, 0))) ∧ (Below w.heap.size w w')) ?_ ?_
                rotate_left
                ·intro hJ1_2
                 refine join_ (σ := Value × Value) 6 (bits 8 12) (fun s_ => [(3, .agg #[.int .i64 t310, .int .i64 t311, .int .i64 t312, .int .i64 t313, .int .i64 t314, s_.1, .int .i64 t318, .int .i64 t319]), (4, .agg #[.int .i64 t320, .int .i64 t321, .int .i64 t322, .int .i64 t323, .int .i64 t324, s_.2, .int .i64 t328, .int .i64 t329])]) (fun s_ w' => (Kd.R k120 120 w' w.heap.size (fun k_ => (w.heap.size ≤ k_) ∧ some k_ ≠ (s_.2 : Value).ownBlock) s_.1 t315) ∧ (Kd.R k120 120 w' w.heap.size (fun k_ => (w.heap.size ≤ k_) ∧ some k_ ≠ (s_.1 : Value).ownBlock) s_.2 t325) ∧ (w'.heap[gb303]? = some (.cells #[.slice none 0 0, .slice none 0 0, .slice none 0 0] 37 (0, 0))) ∧ (Below w.heap.size w w')) ?_ ?_
                 rotate_left
                 ·intro hJ2_3
                  refine join_ (σ := Value) 7 (bits 8 1) (fun s_ => [(1, s_)]) (fun s_ w' => (Kd.R (Kd.int .i64) 3 w' w.heap.size (fun k_ => (w.heap.size ≤ k_)) s_ y304) ∧ (w'.heap[gb303]? = some (.cells #[.slice none 0 0, .slice none 0 0, .slice none 0 0] 37 (0, 0))) ∧ (Below w.heap.size w w')) ?_ ?_
                  rotate_left
                  ·intro hJ0
                   refine join_ (σ := Value) 7 (bits 8 2) (fun s_ => [(2, s_)]) (fun s_ w' => (Kd.R k158 158 w' w.heap.size (fun k_ => (w.heap.size ≤ k_)) s_ y307) ∧ (w'.heap[gb303]? = some (.cells #[.slice none 0 0, .slice none 0 0, .slice none 0 0] 37 (0, 0))) ∧ (Below w.heap.size w w')) ?_ ?_
                   rotate_left
                   ·intro hJ1
                    refine join_ (σ := Value) 7 (bits 8 4) (fun s_ => [(3, .agg #[.int .i64 t310, .int .i64 t311, .int .i64 t312, .int .i64 t313, .int .i64 t314, s_, .int .i64 t318, .int .i64 t319])]) (fun s_ w' => (Kd.R k120 120 w' w.heap.size (fun k_ => (w.heap.size ≤ k_)) s_ t315) ∧ (w'.heap[gb303]? = some (.cells #[.slice none 0 0, .slice none 0 0, .slice none 0 0] 37 (0, 0))) ∧ (Below w.heap.size w w')) ?_ ?_
                    rotate_left
                    ·intro hJ2
                     refine three_ (i := 0) (j := 1) (k := 2) (Ni := some 1) (Nj := some 2) (Nk := some 3) (bits 8 1) (bits 8 2) (bits 8 4) rfl rfl rfl rfl rfl rfl (three_of HT_.out (by kernel_rfl)) (by decide) (by decide) (by decide) (fun K hK => ?_) (fun K hK => ?_) (fun K hK => ?_)
                     ·skip
                      refine Kd.R_lit_step (Kd.int .i64) _ 3 ?hg (N := 1) ?hd (xs := ([1, 2, 3, 4] : List Int)) (inner := [.int .i64 1, .int .i64 2, .int .i64 3, .int .i64 4]) (ok := fun _ => True) (okp := fun _ => True) ?hr ?hp (fun _ hk => hk) trivial (Below.refl _ _) (Nat.le_refl _) (by simp) ?_; (case hd => rfl); (case hg => rfl); (case hr => first | (go_simp; done) | (go_simp; rfl)); (case hp => exact (Reps.one (show Kd.M (Kd.int .i64) _ _ _ 1 [.int .i64 1] from rfl) (Reps.one (show Kd.M (Kd.int .i64) _ _ _ 2 [.int .i64 2] from rfl) (Reps.one (show Kd.M (Kd.int .i64) _ _ _ 3 [.int .i64 3] from rfl) (Reps.one (show Kd.M (Kd.int .i64) _ _ _ 4 [.int .i64 4] from rfl) (Reps.none _ _))))))
                      intro v305 w7 ho8 hb hg_ hnew_; clear hg_ hnew_
                      (first | rw [← Ny304.out] at ho8 | (simp only [Int.reduceToNat] at ho8; rw [← Ny304.out] at ho8))
                      have n0_ := Aside0.mk (Kd.R_lower (Kd.R_newM (M := fun k_ => (w.heap.size ≤ k_)) ho8 (below_size (byB1 HB.out GE303.out)) (fun k_ h_ => h_)) (below_size (byB1 HB.out GE303.out))); have n1_ := Aside0.mk (blk_below (g := gb303) (o := .cells #[.slice none 0 0, .slice none 0 0, .slice none 0 0] 37 (0, 0)) (byK BK303.out) hb); have n2_ := Aside0.mk (below_step (byB1 HB.out GE303.out) hb); clear BK303 HB; have HO306 := n0_; have BK303 := n1_; have HB := n2_; clear n0_ n1_ n2_ hb ho8
                      refine hK.out _ _ trivial (fun hHeld => ?_)
                      clear hK K
                      refine norm_ (a' := ?_) ?_ ?_
                      rotate_left
                      ·show Act.put _ (some 1) _ = _
                       simp only [putW]; rfl
                      exact norm_ (by first | (simp only [putAll, Act.put, List.setIfInBounds_toArray, List.set_cons_zero, List.set_cons_succ]; done) | (simp only [putAll, Act.put, List.setIfInBounds_toArray, List.set_cons_zero, List.set_cons_succ]; rfl)) (hJ0 (v305) _ ⟨(by (with_reducible repeat (first | apply Kd.R_alloc | apply Kd.R_drewN | apply Kd.R_drew)); exact Kd.R_mono HO306.out (fun _ hk => hk.1)), (byK BK303.out), (byB1 HB.out GE303.out)⟩)
                     ·skip
                      refine Kd.R_make_step k158 _ 158 (by rfl) (N := 2) rfl 34 _ _ rfl 4 rfl rfl Try.underlying34 (.agg #[(.int .i64 0), (.int .i64 0)]) 16 info158 rfl (by decide) (by omega) z158 (ok := fun _ => True) (okp := fun _ => True) (k158_mkM _ _ _ z158 ) (fun _ hk => hk) trivial (by omega) (by omega) (Below.refl _ _) (Nat.le_refl _) ?_
                      intro v308 w7 ho8 hb hg_ hnew_; clear hg_ hnew_
                      (first | rw [← Ny307.out] at ho8 | (simp only [Int.reduceToNat] at ho8; rw [← Ny307.out] at ho8))
                      have n0_ := Aside0.mk (Kd.R_lower (Kd.R_newM (M := fun k_ => (w.heap.size ≤ k_)) ho8 (below_size (byB1 HB.out GE303.out)) (fun k_ h_ => h_)) (below_size (byB1 HB.out GE303.out))); have n1_ := Aside0.mk (blk_below (g := gb303) (o := .cells #[.slice none 0 0, .slice none 0 0, .slice none 0 0] 37 (0, 0)) (byK BK303.out) hb); have n2_ := Aside0.mk (below_step (byB1 HB.out GE303.out) hb); clear BK303 HB; have HO309 := n0_; have BK303 := n1_; have HB := n2_; clear n0_ n1_ n2_ hb ho8
                      refine hK.out _ _ trivial (fun hHeld => ?_)
                      clear hK K
                      refine norm_ (a' := ?_) ?_ ?_
                      rotate_left
                      ·show Act.put _ (some 2) _ = _
                       simp only [putW]; rfl
                      exact norm_ (by first | (simp only [putAll, Act.put, List.setIfInBounds_toArray, List.set_cons_zero, List.set_cons_succ]; done) | (simp only [putAll, Act.put, List.setIfInBounds_toArray, List.set_cons_zero, List.set_cons_succ]; rfl)) (hJ1 (v308) _ ⟨(by (with_reducible repeat (first | apply Kd.R_alloc | apply Kd.R_drewN | apply Kd.R_drew)); exact Kd.R_mono HO309.out (fun _ hk => hk.1)), (byK BK303.out), (byB1 HB.out GE303.out)⟩)
                     ·skip
                      refine goes_ Try.func46 (by kernel_rfl) rfl #[.int .i64 0, .int .i64 1, .int .i64 1] (by rfl) rfl rfl byL ?_
                      with_reducible refine (mapmakerlaw47_piece.calls 0 1 1 t310 t311 t312 t313 t314 t315 t318 t319 _ A2.out).mono ?_
                      rintro e w7 ⟨v316, rfl, ho0, hb⟩
                      refine ⟨_, rfl, ?_⟩
                      have n0_ := Aside0.mk (Kd.R_lower (Kd.R_newM (M := fun k_ => (w.heap.size ≤ k_)) ho0 (below_size (byB1 HB.out GE303.out)) (fun k_ h_ => h_)) (below_size (byB1 HB.out GE303.out))); have n1_ := Aside0.mk (blk_below (g := gb303) (o := .cells #[.slice none 0 0, .slice none 0 0, .slice none 0 0] 37 (0, 0)) (byK BK303.out) hb); have n2_ := Aside0.mk (below_step (byB1 HB.out GE303.out) hb); clear BK303 HB; have HO317 := n0_; have BK303 := n1_; have HB := n2_; clear n0_ n1_ n2_
                      (try clear hb)
                      (try clear hb2)
                      (try clear hk)
                      (try clear hi)
                      (try clear ho0)
                      refine hK.out _ _ trivial (fun hHeld => ?_)
                      clear hK K
                      refine norm_ (a' := ?_) ?_ ?_
                      rotate_left
                      ·show Act.put _ (some 3) _ = _
                       simp only [putW]; rfl
                      exact norm_ (by first | (simp only [putAll, Act.put, List.setIfInBounds_toArray, List.set_cons_zero, List.set_cons_succ]; done) | (simp only [putAll, Act.put, List.setIfInBounds_toArray, List.set_cons_zero, List.set_cons_succ]; rfl)) (hJ2 (v316) _ ⟨(by (with_reducible repeat (first | apply Kd.R_alloc | apply Kd.R_drewN | apply Kd.R_drew)); exact Kd.R_mono HO317.out (fun _ hk => hk.1)), (byK BK303.out), (byB1 HB.out GE303.out)⟩)
                    ·skip
                     rintro v316 w8 ⟨h0_, h1_, h2_⟩
                     have n0_ : Aside0 (Kd.R k120 120 w8 w.heap.size (fun k_ => (w.heap.size ≤ k_)) v316 t315) := ⟨h0_⟩
                     have n1_ : Aside0 (w8.heap[gb303]? = some (.cells #[.slice none 0 0, .slice none 0 0, .slice none 0 0] 37 (0, 0))) := ⟨h1_⟩
                     have n2_ : Aside0 (Below w.heap.size w w8) := ⟨h2_⟩
                     clear BK303 HB h0_ h1_ h2_; have HO317 := n0_; have BK303 := n1_; have HB := n2_; clear n0_ n1_ n2_; have hHeld := trivial
                     refine norm_ (a' := ?_) ?_ ?_
                     rotate_left
                     ·simp only [putAll, Act.put, List.setIfInBounds_toArray, List.set_cons_zero, List.set_cons_succ]
                      rfl
                     refine three_ (i := 0) (j := 1) (k := 3) (Ni := some 1) (Nj := some 2) (Nk := some 4) (bits 8 5) (bits 8 6) (bits 8 12) rfl rfl rfl rfl rfl rfl (three_of HT_.out (by kernel_rfl)) (by decide) (by decide) (by decide) (fun K hK => ?_) (fun K hK => ?_) (fun K hK => ?_)
                     ·skip
                      refine Kd.R_lit_step (Kd.int .i64) _ 3 ?hg (N := 1) ?hd (xs := ([1, 2, 3, 4] : List Int)) (inner := [.int .i64 1, .int .i64 2, .int .i64 3, .int .i64 4]) (ok := fun _ => True) (okp := fun _ => True) ?hr ?hp (fun _ hk => hk) trivial (Below.refl _ _) (Nat.le_refl _) (by simp) ?_; (case hd => rfl); (case hg => rfl); (case hr => first | (go_simp; done) | (go_simp; rfl)); (case hp => exact (Reps.one (show Kd.M (Kd.int .i64) _ _ _ 1 [.int .i64 1] from rfl) (Reps.one (show Kd.M (Kd.int .i64) _ _ _ 2 [.int .i64 2] from rfl) (Reps.one (show Kd.M (Kd.int .i64) _ _ _ 3 [.int .i64 3] from rfl) (Reps.one (show Kd.M (Kd.int .i64) _ _ _ 4 [.int .i64 4] from rfl) (Reps.none _ _))))))
                      intro v305 w9 ho10 hb hg_ hnew_; clear hg_ hnew_
                      (first | rw [← Ny304.out] at ho10 | (simp only [Int.reduceToNat] at ho10; rw [← Ny304.out] at ho10))
                      have n0_ := Aside0.mk (Kd.R_below (byR HO317.out) hb); have n1_ := Aside0.mk (Kd.R_lower (Kd.R_newM (M := fun k_ => (w.heap.size ≤ k_)) ho10 (below_size (byB1 HB.out GE303.out)) (fun k_ h_ => h_)) (below_size (byB1 HB.out GE303.out))); have n2_ := Aside0.mk (blk_below (g := gb303) (o := .cells #[.slice none 0 0, .slice none 0 0, .slice none 0 0] 37 (0, 0)) (byK BK303.out) hb); have n3_ := Aside0.mk (below_step (byB1 HB.out GE303.out) hb); clear HO317 BK303 HB; have HO317 := n0_; have HO306 := n1_; have BK303 := n2_; have HB := n3_; clear n0_ n1_ n2_ n3_ hb ho10
                      refine hK.out _ _ trivial (fun hHeld => ?_)
                      clear hK K
                      refine norm_ (a' := ?_) ?_ ?_
                      rotate_left
                      ·show Act.put _ (some 1) _ = _
                       simp only [putW]; rfl
                      exact norm_ (by first | (simp only [putAll, Act.put, List.setIfInBounds_toArray, List.set_cons_zero, List.set_cons_succ]; done) | (simp only [putAll, Act.put, List.setIfInBounds_toArray, List.set_cons_zero, List.set_cons_succ]; rfl)) (hJ0_2 (v305, v316) _ ⟨(by (with_reducible repeat (first | apply Kd.R_alloc | apply Kd.R_drewN | apply Kd.R_drew)); exact Kd.R_mono HO306.out (fun _ hk => hk.1)), (byR HO317.out), (byK BK303.out), (byB1 HB.out GE303.out)⟩)
                     ·skip
                      refine Kd.R_make_step k158 _ 158 (by rfl) (N := 2) rfl 34 _ _ rfl 4 rfl rfl Try.underlying34 (.agg #[(.int .i64 0), (.int .i64 0)]) 16 info158 rfl (by decide) (by omega) z158 (ok := fun _ => True) (okp := fun _ => True) (k158_mkM _ _ _ z158 ) (fun _ hk => hk) trivial (by omega) (by omega) (Below.refl _ _) (Nat.le_refl _) ?_
                      intro v308 w9 ho10 hb hg_ hnew_; clear hg_ hnew_
                      (first | rw [← Ny307.out] at ho10 | (simp only [Int.reduceToNat] at ho10; rw [← Ny307.out] at ho10))
                      have n0_ := Aside0.mk (Kd.R_below (byR HO317.out) hb); have n1_ := Aside0.mk (Kd.R_lower (Kd.R_newM (M := fun k_ => (w.heap.size ≤ k_)) ho10 (below_size (byB1 HB.out GE303.out)) (fun k_ h_ => h_)) (below_size (byB1 HB.out GE303.out))); have n2_ := Aside0.mk (blk_below (g := gb303) (o := .cells #[.slice none 0 0, .slice none 0 0, .slice none 0 0] 37 (0, 0)) (byK BK303.out) hb); have n3_ := Aside0.mk (below_step (byB1 HB.out GE303.out) hb); clear HO317 BK303 HB; have HO317 := n0_; have HO309 := n1_; have BK303 := n2_; have HB := n3_; clear n0_ n1_ n2_ n3_ hb ho10
                      refine hK.out _ _ trivial (fun hHeld => ?_)
                      clear hK K
                      refine norm_ (a' := ?_) ?_ ?_
                      rotate_left
                      ·show Act.put _ (some 2) _ = _
                       simp only [putW]; rfl
                      exact norm_ (by first | (simp only [putAll, Act.put, List.setIfInBounds_toArray, List.set_cons_zero, List.set_cons_succ]; done) | (simp only [putAll, Act.put, List.setIfInBounds_toArray, List.set_cons_zero, List.set_cons_succ]; rfl)) (hJ1_2 (v308, v316) _ ⟨(by (with_reducible repeat (first | apply Kd.R_alloc | apply Kd.R_drewN | apply Kd.R_drew)); exact Kd.R_mono HO309.out (fun _ hk => hk.1)), (byR HO317.out), (byK BK303.out), (byB1 HB.out GE303.out)⟩)
                     ·skip
                      refine goes_ Try.func46 (by kernel_rfl) rfl #[.int .i64 1, .int .i64 2, .int .i64 3] (by rfl) rfl rfl byL ?_
                      with_reducible refine (mapmakerlaw47_piece.calls 1 2 3 t320 t321 t322 t323 t324 t325 t328 t329 _ A3.out).mono ?_
                      rintro e w9 ⟨v326, rfl, ho0, hb⟩
                      refine ⟨_, rfl, ?_⟩
                      have n0_ := Aside0.mk (Kd.R_elder' (byR HO317.out) (Kd.R_base ho0) hb); have n1_ := Aside0.mk (Kd.R_lower (Kd.R_new' (Kd.R_newM (M := fun k_ => (w.heap.size ≤ k_)) ho0 (below_size (byB1 HB.out GE303.out)) (fun k_ h_ => h_)) (Kd.R_lt (byR HO317.out))) (below_size (byB1 HB.out GE303.out))); have n2_ := Aside0.mk (blk_below (g := gb303) (o := .cells #[.slice none 0 0, .slice none 0 0, .slice none 0 0] 37 (0, 0)) (byK BK303.out) hb); have n3_ := Aside0.mk (below_step (byB1 HB.out GE303.out) hb); clear HO317 BK303 HB; have HO317 := n0_; have HO327 := n1_; have BK303 := n2_; have HB := n3_; clear n0_ n1_ n2_ n3_
                      (try clear hb)
                      (try clear hb2)
                      (try clear hk)
                      (try clear hi)
                      (try clear ho0)
                      refine hK.out _ _ trivial (fun hHeld => ?_)
                      clear hK K
                      refine norm_ (a' := ?_) ?_ ?_
                      rotate_left
                      ·show Act.put _ (some 4) _ = _
                       simp only [putW]; rfl
                      exact norm_ (by first | (simp only [putAll, Act.put, List.setIfInBounds_toArray, List.set_cons_zero, List.set_cons_succ]; done) | (simp only [putAll, Act.put, List.setIfInBounds_toArray, List.set_cons_zero, List.set_cons_succ]; rfl)) (hJ2_3 (v316, v326) _ ⟨(byR HO317.out), (by (with_reducible repeat (first | apply Kd.R_alloc | apply Kd.R_drewN | apply Kd.R_drew)); exact Kd.R_mono HO327.out (fun _ hk => ⟨hk.1.1, hk.2⟩)), (byK BK303.out), (byB1 HB.out GE303.out)⟩)
                   ·skip
                    rintro v308 w9 ⟨h0_, h1_, h2_⟩
                    have n0_ : Aside0 (Kd.R k158 158 w9 w.heap.size (fun k_ => (w.heap.size ≤ k_)) v308 y307) := ⟨h0_⟩
                    have n1_ : Aside0 (w9.heap[gb303]? = some (.cells #[.slice none 0 0, .slice none 0 0, .slice none 0 0] 37 (0, 0))) := ⟨h1_⟩
                    have n2_ : Aside0 (Below w.heap.size w w9) := ⟨h2_⟩
                    clear BK303 HB h0_ h1_ h2_; have HO309 := n0_; have BK303 := n1_; have HB := n2_; clear n0_ n1_ n2_; have hHeld := trivial
                    refine norm_ (a' := ?_) ?_ ?_
                    rotate_left
                    ·simp only [putAll, Act.put, List.setIfInBounds_toArray, List.set_cons_zero, List.set_cons_succ]
                     rfl
                    refine two_ (i := 0) (j := 2) (Ni := some 1) (Nj := some 3) (bits 8 3) (bits 8 6) rfl rfl rfl rfl (two_of HT_.out (by kernel_rfl)) (by decide) (by decide) (fun K hK => ?_) (fun K hK => ?_)
                    ·skip
                     refine Kd.R_lit_step (Kd.int .i64) _ 3 ?hg (N := 1) ?hd (xs := ([1, 2, 3, 4] : List Int)) (inner := [.int .i64 1, .int .i64 2, .int .i64 3, .int .i64 4]) (ok := fun _ => True) (okp := fun _ => True) ?hr ?hp (fun _ hk => hk) trivial (Below.refl _ _) (Nat.le_refl _) (by simp) ?_; (case hd => rfl); (case hg => rfl); (case hr => first | (go_simp; done) | (go_simp; rfl)); (case hp => exact (Reps.one (show Kd.M (Kd.int .i64) _ _ _ 1 [.int .i64 1] from rfl) (Reps.one (show Kd.M (Kd.int .i64) _ _ _ 2 [.int .i64 2] from rfl) (Reps.one (show Kd.M (Kd.int .i64) _ _ _ 3 [.int .i64 3] from rfl) (Reps.one (show Kd.M (Kd.int .i64) _ _ _ 4 [.int .i64 4] from rfl) (Reps.none _ _))))))
                     intro v305 w10 ho11 hb hg_ hnew_; clear hg_ hnew_
                     (first | rw [← Ny304.out] at ho11 | (simp only [Int.reduceToNat] at ho11; rw [← Ny304.out] at ho11))
                     have n0_ := Aside0.mk (Kd.R_below (byR HO309.out) hb); have n1_ := Aside0.mk (Kd.R_lower (Kd.R_newM (M := fun k_ => (w.heap.size ≤ k_)) ho11 (below_size (byB1 HB.out GE303.out)) (fun k_ h_ => h_)) (below_size (byB1 HB.out GE303.out))); have n2_ := Aside0.mk (blk_below (g := gb303) (o := .cells #[.slice none 0 0, .slice none 0 0, .slice none 0 0] 37 (0, 0)) (byK BK303.out) hb); have n3_ := Aside0.mk (below_step (byB1 HB.out GE303.out) hb); clear HO309 BK303 HB; have HO309 := n0_; have HO306 := n1_; have BK303 := n2_; have HB := n3_; clear n0_ n1_ n2_ n3_ hb ho11
                     refine hK.out _ _ trivial (fun hHeld => ?_)
                     clear hK K
                     refine norm_ (a' := ?_) ?_ ?_
                     rotate_left
                     ·show Act.put _ (some 1) _ = _
                      simp only [putW]; rfl
                     exact norm_ (by first | (simp only [putAll, Act.put, List.setIfInBounds_toArray, List.set_cons_zero, List.set_cons_succ]; done) | (simp only [putAll, Act.put, List.setIfInBounds_toArray, List.set_cons_zero, List.set_cons_succ]; rfl)) (hJ0_1 (v305, v308) _ ⟨(by (with_reducible repeat (first | apply Kd.R_alloc | apply Kd.R_drewN | apply Kd.R_drew)); exact Kd.R_mono HO306.out (fun _ hk => hk.1)), (byR HO309.out), (byK BK303.out), (byB1 HB.out GE303.out)⟩)
                    ·skip
                     refine goes_ Try.func46 (by kernel_rfl) rfl #[.int .i64 0, .int .i64 1, .int .i64 1] (by rfl) rfl rfl byL ?_
                     with_reducible refine (mapmakerlaw47_piece.calls 0 1 1 t310 t311 t312 t313 t314 t315 t318 t319 _ A2.out).mono ?_
                     rintro e w10 ⟨v316, rfl, ho0, hb⟩
                     refine ⟨_, rfl, ?_⟩
                     have n0_ := Aside0.mk (Kd.R_below (byR HO309.out) hb); have n1_ := Aside0.mk (Kd.R_lower (Kd.R_newM (M := fun k_ => (w.heap.size ≤ k_)) ho0 (below_size (byB1 HB.out GE303.out)) (fun k_ h_ => h_)) (below_size (byB1 HB.out GE303.out))); have n2_ := Aside0.mk (blk_below (g := gb303) (o := .cells #[.slice none 0 0, .slice none 0 0, .slice none 0 0] 37 (0, 0)) (byK BK303.out) hb); have n3_ := Aside0.mk (below_step (byB1 HB.out GE303.out) hb); clear HO309 BK303 HB; have HO309 := n0_; have HO317 := n1_; have BK303 := n2_; have HB := n3_; clear n0_ n1_ n2_ n3_
                     (try clear hb)
                     (try clear hb2)
                     (try clear hk)
                     (try clear hi)
                     (try clear ho0)
                     refine hK.out _ _ trivial (fun hHeld => ?_)
                     clear hK K
                     refine norm_ (a' := ?_) ?_ ?_
                     rotate_left
                     ·show Act.put _ (some 3) _ = _
                      simp only [putW]; rfl
                     exact norm_ (by first | (simp only [putAll, Act.put, List.setIfInBounds_toArray, List.set_cons_zero, List.set_cons_succ]; done) | (simp only [putAll, Act.put, List.setIfInBounds_toArray, List.set_cons_zero, List.set_cons_succ]; rfl)) (hJ1_2 (v308, v316) _ ⟨(byR HO309.out), (by (with_reducible repeat (first | apply Kd.R_alloc | apply Kd.R_drewN | apply Kd.R_drew)); exact Kd.R_mono HO317.out (fun _ hk => hk.1)), (byK BK303.out), (byB1 HB.out GE303.out)⟩)
                  ·skip
                   rintro v305 w9 ⟨h0_, h1_, h2_⟩
                   have n0_ : Aside0 (Kd.R (Kd.int .i64) 3 w9 w.heap.size (fun k_ => (w.heap.size ≤ k_)) v305 y304) := ⟨h0_⟩
                   have n1_ : Aside0 (w9.heap[gb303]? = some (.cells #[.slice none 0 0, .slice none 0 0, .slice none 0 0] 37 (0, 0))) := ⟨h1_⟩
                   have n2_ : Aside0 (Below w.heap.size w w9) := ⟨h2_⟩
                   clear BK303 HB h0_ h1_ h2_; have HO306 := n0_; have BK303 := n1_; have HB := n2_; clear n0_ n1_ n2_; have hHeld := trivial
                   refine norm_ (a' := ?_) ?_ ?_
                   rotate_left
                   ·simp only [putAll, Act.put, List.setIfInBounds_toArray, List.set_cons_zero, List.set_cons_succ]
                    rfl
                   refine two_ (i := 1) (j := 2) (Ni := some 2) (Nj := some 3) (bits 8 3) (bits 8 5) rfl rfl rfl rfl (two_of HT_.out (by kernel_rfl)) (by decide) (by decide) (fun K hK => ?_) (fun K hK => ?_)
                   ·skip
                    refine Kd.R_make_step k158 _ 158 (by rfl) (N := 2) rfl 34 _ _ rfl 4 rfl rfl Try.underlying34 (.agg #[(.int .i64 0), (.int .i64 0)]) 16 info158 rfl (by decide) (by omega) z158 (ok := fun _ => True) (okp := fun _ => True) (k158_mkM _ _ _ z158 ) (fun _ hk => hk) trivial (by omega) (by omega) (Below.refl _ _) (Nat.le_refl _) ?_
                    intro v308 w10 ho11 hb hg_ hnew_; clear hg_ hnew_
                    (first | rw [← Ny307.out] at ho11 | (simp only [Int.reduceToNat] at ho11; rw [← Ny307.out] at ho11))
                    have n0_ := Aside0.mk (Kd.R_below (byR HO306.out) hb); have n1_ := Aside0.mk (Kd.R_lower (Kd.R_newM (M := fun k_ => (w.heap.size ≤ k_)) ho11 (below_size (byB1 HB.out GE303.out)) (fun k_ h_ => h_)) (below_size (byB1 HB.out GE303.out))); have n2_ := Aside0.mk (blk_below (g := gb303) (o := .cells #[.slice none 0 0, .slice none 0 0, .slice none 0 0] 37 (0, 0)) (byK BK303.out) hb); have n3_ := Aside0.mk (below_step (byB1 HB.out GE303.out) hb); clear HO306 BK303 HB; have HO306 := n0_; have HO309 := n1_; have BK303 := n2_; have HB := n3_; clear n0_ n1_ n2_ n3_ hb ho11
                    refine hK.out _ _ trivial (fun hHeld => ?_)
                    clear hK K
                    refine norm_ (a' := ?_) ?_ ?_
                    rotate_left
                    ·show Act.put _ (some 2) _ = _
                     simp only [putW]; rfl
                    exact norm_ (by first | (simp only [putAll, Act.put, List.setIfInBounds_toArray, List.set_cons_zero, List.set_cons_succ]; done) | (simp only [putAll, Act.put, List.setIfInBounds_toArray, List.set_cons_zero, List.set_cons_succ]; rfl)) (hJ0_1 (v305, v308) _ ⟨(byR HO306.out), (by (with_reducible repeat (first | apply Kd.R_alloc | apply Kd.R_drewN | apply Kd.R_drew)); exact Kd.R_mono HO309.out (fun _ hk => hk.1)), (byK BK303.out), (byB1 HB.out GE303.out)⟩)
                   ·skip
                    refine goes_ Try.func46 (by kernel_rfl) rfl #[.int .i64 0, .int .i64 1, .int .i64 1] (by rfl) rfl rfl byL ?_
                    with_reducible refine (mapmakerlaw47_piece.calls 0 1 1 t310 t311 t312 t313 t314 t315 t318 t319 _ A2.out).mono ?_
                    rintro e w10 ⟨v316, rfl, ho0, hb⟩
                    refine ⟨_, rfl, ?_⟩
                    have n0_ := Aside0.mk (Kd.R_below (byR HO306.out) hb); have n1_ := Aside0.mk (Kd.R_lower (Kd.R_newM (M := fun k_ => (w.heap.size ≤ k_)) ho0 (below_size (byB1 HB.out GE303.out)) (fun k_ h_ => h_)) (below_size (byB1 HB.out GE303.out))); have n2_ := Aside0.mk (blk_below (g := gb303) (o := .cells #[.slice none 0 0, .slice none 0 0, .slice none 0 0] 37 (0, 0)) (byK BK303.out) hb); have n3_ := Aside0.mk (below_step (byB1 HB.out GE303.out) hb); clear HO306 BK303 HB; have HO306 := n0_; have HO317 := n1_; have BK303 := n2_; have HB := n3_; clear n0_ n1_ n2_ n3_
                    (try clear hb)
                    (try clear hb2)
                    (try clear hk)
                    (try clear hi)
                    (try clear ho0)
                    refine hK.out _ _ trivial (fun hHeld => ?_)
                    clear hK K
                    refine norm_ (a' := ?_) ?_ ?_
                    rotate_left
                    ·show Act.put _ (some 3) _ = _
                     simp only [putW]; rfl
                    exact norm_ (by first | (simp only [putAll, Act.put, List.setIfInBounds_toArray, List.set_cons_zero, List.set_cons_succ]; done) | (simp only [putAll, Act.put, List.setIfInBounds_toArray, List.set_cons_zero, List.set_cons_succ]; rfl)) (hJ0_2 (v305, v316) _ ⟨(byR HO306.out), (by (with_reducible repeat (first | apply Kd.R_alloc | apply Kd.R_drewN | apply Kd.R_drew)); exact Kd.R_mono HO317.out (fun _ hk => hk.1)), (byK BK303.out), (byB1 HB.out GE303.out)⟩)
                 ·skip
                  rintro ⟨v316, v326⟩ w9 ⟨h0_, h1_, h2_, h3_⟩
                  have n0_ : Aside0 (Kd.R k120 120 w9 w.heap.size (fun k_ => (w.heap.size ≤ k_) ∧ some k_ ≠ (v326 : Value).ownBlock) v316 t315) := ⟨h0_⟩
                  have n1_ : Aside0 (Kd.R k120 120 w9 w.heap.size (fun k_ => (w.heap.size ≤ k_) ∧ some k_ ≠ (v316 : Value).ownBlock) v326 t325) := ⟨h1_⟩
                  have n2_ : Aside0 (w9.heap[gb303]? = some (.cells #[.slice none 0 0, .slice none 0 0, .slice none 0 0] 37 (0, 0))) := ⟨h2_⟩
                  have n3_ : Aside0 (Below w.heap.size w w9) := ⟨h3_⟩
                  clear BK303 HB h0_ h1_ h2_ h3_; have HO317 := n0_; have HO327 := n1_; have BK303 := n2_; have HB := n3_; clear n0_ n1_ n2_ n3_; have hHeld := trivial
                  refine norm_ (a' := ?_) ?_ ?_
                  rotate_left
                  ·simp only [putAll, Act.put, List.setIfInBounds_toArray, List.set_cons_zero, List.set_cons_succ]
                   rfl
                  refine three_ (i := 0) (j := 1) (k := 4) (Ni := some 1) (Nj := some 2) (Nk := some 5) (bits 8 13) (bits 8 14) (bits 8 28) rfl rfl rfl rfl rfl rfl (three_of HT_.out (by kernel_rfl)) (by decide) (by decide) (by decide) (fun K hK => ?_) (fun K hK => ?_) (fun K hK => ?_)
                  ·skip
                   refine Kd.R_lit_step (Kd.int .i64) _ 3 ?hg (N := 1) ?hd (xs := ([1, 2, 3, 4] : List Int)) (inner := [.int .i64 1, .int .i64 2, .int .i64 3, .int .i64 4]) (ok := fun _ => True) (okp := fun _ => True) ?hr ?hp (fun _ hk => hk) trivial (Below.refl _ _) (Nat.le_refl _) (by simp) ?_; (case hd => rfl); (case hg => rfl); (case hr => first | (go_simp; done) | (go_simp; rfl)); (case hp => exact (Reps.one (show Kd.M (Kd.int .i64) _ _ _ 1 [.int .i64 1] from rfl) (Reps.one (show Kd.M (Kd.int .i64) _ _ _ 2 [.int .i64 2] from rfl) (Reps.one (show Kd.M (Kd.int .i64) _ _ _ 3 [.int .i64 3] from rfl) (Reps.one (show Kd.M (Kd.int .i64) _ _ _ 4 [.int .i64 4] from rfl) (Reps.none _ _))))))
                   intro v305 w10 ho11 hb hg_ hnew_; clear hg_ hnew_
                   (first | rw [← Ny304.out] at ho11 | (simp only [Int.reduceToNat] at ho11; rw [← Ny304.out] at ho11))
                   have n0_ := Aside0.mk (Kd.R_below (byR HO317.out) hb); have n1_ := Aside0.mk (Kd.R_below (byR HO327.out) hb); have n2_ := Aside0.mk (Kd.R_lower (Kd.R_newM (M := fun k_ => (w.heap.size ≤ k_)) ho11 (below_size (byB1 HB.out GE303.out)) (fun k_ h_ => h_)) (below_size (byB1 HB.out GE303.out))); have n3_ := Aside0.mk (blk_below (g := gb303) (o := .cells #[.slice none 0 0, .slice none 0 0, .slice none 0 0] 37 (0, 0)) (byK BK303.out) hb); have n4_ := Aside0.mk (below_step (byB1 HB.out GE303.out) hb); clear HO317 HO327 BK303 HB; have HO317 := n0_; have HO327 := n1_; have HO306 := n2_; have BK303 := n3_; have HB := n4_; clear n0_ n1_ n2_ n3_ n4_ hb ho11
                   refine hK.out _ _ trivial (fun hHeld => ?_)
                   clear hK K
                   refine norm_ (a' := ?_) ?_ ?_
                   rotate_left
                   ·show Act.put _ (some 1) _ = _
                    simp only [putW]; rfl
                   exact norm_ (by first | (simp only [putAll, Act.put, List.setIfInBounds_toArray, List.set_cons_zero, List.set_cons_succ]; done) | (simp only [putAll, Act.put, List.setIfInBounds_toArray, List.set_cons_zero, List.set_cons_succ]; rfl)) (hJ0_2_3 (v305, v316, v326) _ ⟨(by (with_reducible repeat (first | apply Kd.R_alloc | apply Kd.R_drewN | apply Kd.R_drew)); exact Kd.R_mono HO306.out (fun _ hk => hk.1)), (byR HO317.out), (byR HO327.out), (byK BK303.out), (byB1 HB.out GE303.out)⟩)
                  ·skip
                   refine Kd.R_make_step k158 _ 158 (by rfl) (N := 2) rfl 34 _ _ rfl 4 rfl rfl Try.underlying34 (.agg #[(.int .i64 0), (.int .i64 0)]) 16 info158 rfl (by decide) (by omega) z158 (ok := fun _ => True) (okp := fun _ => True) (k158_mkM _ _ _ z158 ) (fun _ hk => hk) trivial (by omega) (by omega) (Below.refl _ _) (Nat.le_refl _) ?_
                   intro v308 w10 ho11 hb hg_ hnew_; clear hg_ hnew_
                   (first | rw [← Ny307.out] at ho11 | (simp only [Int.reduceToNat] at ho11; rw [← Ny307.out] at ho11))
                   have n0_ := Aside0.mk (Kd.R_below (byR HO317.out) hb); have n1_ := Aside0.mk (Kd.R_below (byR HO327.out) hb); have n2_ := Aside0.mk (Kd.R_lower (Kd.R_newM (M := fun k_ => (w.heap.size ≤ k_)) ho11 (below_size (byB1 HB.out GE303.out)) (fun k_ h_ => h_)) (below_size (byB1 HB.out GE303.out))); have n3_ := Aside0.mk (blk_below (g := gb303) (o := .cells #[.slice none 0 0, .slice none 0 0, .slice none 0 0] 37 (0, 0)) (byK BK303.out) hb); have n4_ := Aside0.mk (below_step (byB1 HB.out GE303.out) hb); clear HO317 HO327 BK303 HB; have HO317 := n0_; have HO327 := n1_; have HO309 := n2_; have BK303 := n3_; have HB := n4_; clear n0_ n1_ n2_ n3_ n4_ hb ho11
                   refine hK.out _ _ trivial (fun hHeld => ?_)
                   clear hK K
                   refine norm_ (a' := ?_) ?_ ?_
                   rotate_left
                   ·show Act.put _ (some 2) _ = _
                    simp only [putW]; rfl
                   exact norm_ (by first | (simp only [putAll, Act.put, List.setIfInBounds_toArray, List.set_cons_zero, List.set_cons_succ]; done) | (simp only [putAll, Act.put, List.setIfInBounds_toArray, List.set_cons_zero, List.set_cons_succ]; rfl)) (hJ1_2_3 (v308, v316, v326) _ ⟨(by (with_reducible repeat (first | apply Kd.R_alloc | apply Kd.R_drewN | apply Kd.R_drew)); exact Kd.R_mono HO309.out (fun _ hk => hk.1)), (byR HO317.out), (byR HO327.out), (byK BK303.out), (byB1 HB.out GE303.out)⟩)
                  ·skip
                   refine goes_ Try.func46 (by kernel_rfl) rfl #[.int .i64 1, .int .i64 3, .int .i64 4] (by rfl) rfl rfl byL ?_
                   with_reducible refine (mapmakerlaw47_piece.calls 1 3 4 t330 t331 t332 t333 t334 t335 t338 t339 _ A4.out).mono ?_
                   rintro e w10 ⟨v336, rfl, ho0, hb⟩
                   refine ⟨_, rfl, ?_⟩
                   have n0_ := Aside0.mk (Kd.R_elder' (byR HO317.out) (Kd.R_base ho0) hb); have n1_ := Aside0.mk (Kd.R_elder' (byR HO327.out) (Kd.R_base ho0) hb); have n2_ := Aside0.mk (Kd.R_lower (Kd.R_new' (Kd.R_new' (Kd.R_newM (M := fun k_ => (w.heap.size ≤ k_)) ho0 (below_size (byB1 HB.out GE303.out)) (fun k_ h_ => h_)) (Kd.R_lt (byR HO317.out))) (Kd.R_lt (byR HO327.out))) (below_size (byB1 HB.out GE303.out))); have n3_ := Aside0.mk (blk_below (g := gb303) (o := .cells #[.slice none 0 0, .slice none 0 0, .slice none 0 0] 37 (0, 0)) (byK BK303.out) hb); have n4_ := Aside0.mk (below_step (byB1 HB.out GE303.out) hb); clear HO317 HO327 BK303 HB; have HO317 := n0_; have HO327 := n1_; have HO337 := n2_; have BK303 := n3_; have HB := n4_; clear n0_ n1_ n2_ n3_ n4_
                   (try clear hb)
                   (try clear hb2)
                   (try clear hk)
                   (try clear hi)
                   (try clear ho0)
                   refine hK.out _ _ trivial (fun hHeld => ?_)
                   clear hK K
                   refine norm_ (a' := ?_) ?_ ?_
                   rotate_left
                   ·show Act.put _ (some 5) _ = _
                    simp only [putW]; rfl
                   exact norm_ (by first | (simp only [putAll, Act.put, List.setIfInBounds_toArray, List.set_cons_zero, List.set_cons_succ]; done) | (simp only [putAll, Act.put, List.setIfInBounds_toArray, List.set_cons_zero, List.set_cons_succ]; rfl)) (hJ2_3_4 (v316, v326, v336) _ ⟨(by (with_reducible repeat (first | apply Kd.R_alloc | apply Kd.R_drewN | apply Kd.R_drew)); exact Kd.R_mono HO317.out (fun _ hk => ⟨hk.1.1, ⟨hk.1.2, hk.2⟩⟩)), (by (with_reducible repeat (first | apply Kd.R_alloc | apply Kd.R_drewN | apply Kd.R_drew)); exact Kd.R_mono HO327.out (fun _ hk => ⟨hk.1.1, ⟨hk.1.2, hk.2⟩⟩)), (by (with_reducible repeat (first | apply Kd.R_alloc | apply Kd.R_drewN | apply Kd.R_drew)); exact Kd.R_mono HO337.out (fun _ hk => ⟨hk.1.1.1, ⟨hk.1.2, hk.2⟩⟩)), (byK BK303.out), (byB1 HB.out GE303.out)⟩)
                ·skip
                 rintro ⟨v308, v316⟩ w10 ⟨h0_, h1_, h2_, h3_⟩
                 have n0_ : Aside0 (Kd.R k158 158 w10 w.heap.size (fun k_ => (w.heap.size ≤ k_)) v308 y307) := ⟨h0_⟩
                 have n1_ : Aside0 (Kd.R k120 120 w10 w.heap.size (fun k_ => (w.heap.size ≤ k_)) v316 t315) := ⟨h1_⟩
                 have n2_ : Aside0 (w10.heap[gb303]? = some (.cells #[.slice none 0 0, .slice none 0 0, .slice none 0 0] 37 (0, 0))) := ⟨h2_⟩
                 have n3_ : Aside0 (Below w.heap.size w w10) := ⟨h3_⟩
                 clear BK303 HB h0_ h1_ h2_ h3_; have HO309 := n0_; have HO317 := n1_; have BK303 := n2_; have HB := n3_; clear n0_ n1_ n2_ n3_; have hHeld := trivial
                 refine norm_ (a' := ?_) ?_ ?_
                 rotate_left
                 ·simp only [putAll, Act.put, List.setIfInBounds_toArray, List.set_cons_zero, List.set_cons_succ]
                  rfl
                 refine two_ (i := 0) (j := 3) (Ni := some 1) (Nj := some 4) (bits 8 7) (bits 8 14) rfl rfl rfl rfl (two_of HT_.out (by kernel_rfl)) (by decide) (by decide) (fun K hK => ?_) (fun K hK => ?_)
                 ·skip
                  refine Kd.R_lit_step (Kd.int .i64) _ 3 ?hg (N := 1) ?hd (xs := ([1, 2, 3, 4] : List Int)) (inner := [.int .i64 1, .int .i64 2, .int .i64 3, .int .i64 4]) (ok := fun _ => True) (okp := fun _ => True) ?hr ?hp (fun _ hk => hk) trivial (Below.refl _ _) (Nat.le_refl _) (by simp) ?_; (case hd => rfl); (case hg => rfl); (case hr => first | (go_simp; done) | (go_simp; rfl)); (case hp => exact (Reps.one (show Kd.M (Kd.int .i64) _ _ _ 1 [.int .i64 1] from rfl) (Reps.one (show Kd.M (Kd.int .i64) _ _ _ 2 [.int .i64 2] from rfl) (Reps.one (show Kd.M (Kd.int .i64) _ _ _ 3 [.int .i64 3] from rfl) (Reps.one (show Kd.M (Kd.int .i64) _ _ _ 4 [.int .i64 4] from rfl) (Reps.none _ _))))))
                  intro v305 w11 ho12 hb hg_ hnew_; clear hg_ hnew_
                  (first | rw [← Ny304.out] at ho12 | (simp only [Int.reduceToNat] at ho12; rw [← Ny304.out] at ho12))
                  have n0_ := Aside0.mk (Kd.R_below (byR HO309.out) hb); have n1_ := Aside0.mk (Kd.R_below (byR HO317.out) hb); have n2_ := Aside0.mk (Kd.R_lower (Kd.R_newM (M := fun k_ => (w.heap.size ≤ k_)) ho12 (below_size (byB1 HB.out GE303.out)) (fun k_ h_ => h_)) (below_size (byB1 HB.out GE303.out))); have n3_ := Aside0.mk (blk_below (g := gb303) (o := .cells #[.slice none 0 0, .slice none 0 0, .slice none 0 0] 37 (0, 0)) (byK BK303.out) hb); have n4_ := Aside0.mk (below_step (byB1 HB.out GE303.out) hb); clear HO309 HO317 BK303 HB; have HO309 := n0_; have HO317 := n1_; have HO306 := n2_; have BK303 := n3_; have HB := n4_; clear n0_ n1_ n2_ n3_ n4_ hb ho12
                  refine hK.out _ _ trivial (fun hHeld => ?_)
                  clear hK K
                  refine norm_ (a' := ?_) ?_ ?_
                  rotate_left
                  ·show Act.put _ (some 1) _ = _
                   simp only [putW]; rfl
                  exact norm_ (by first | (simp only [putAll, Act.put, List.setIfInBounds_toArray, List.set_cons_zero, List.set_cons_succ]; done) | (simp only [putAll, Act.put, List.setIfInBounds_toArray, List.set_cons_zero, List.set_cons_succ]; rfl)) (hJ0_1_2 (v305, v308, v316) _ ⟨(by (with_reducible repeat (first | apply Kd.R_alloc | apply Kd.R_drewN | apply Kd.R_drew)); exact Kd.R_mono HO306.out (fun _ hk => hk.1)), (byR HO309.out), (byR HO317.out), (byK BK303.out), (byB1 HB.out GE303.out)⟩)
                 ·skip
                  refine goes_ Try.func46 (by kernel_rfl) rfl #[.int .i64 1, .int .i64 2, .int .i64 3] (by rfl) rfl rfl byL ?_
                  with_reducible refine (mapmakerlaw47_piece.calls 1 2 3 t320 t321 t322 t323 t324 t325 t328 t329 _ A3.out).mono ?_
                  rintro e w11 ⟨v326, rfl, ho0, hb⟩
                  refine ⟨_, rfl, ?_⟩
                  have n0_ := Aside0.mk (Kd.R_below (byR HO309.out) hb); have n1_ := Aside0.mk (Kd.R_elder' (byR HO317.out) (Kd.R_base ho0) hb); have n2_ := Aside0.mk (Kd.R_lower (Kd.R_new' (Kd.R_newM (M := fun k_ => (w.heap.size ≤ k_)) ho0 (below_size (byB1 HB.out GE303.out)) (fun k_ h_ => h_)) (Kd.R_lt (byR HO317.out))) (below_size (byB1 HB.out GE303.out))); have n3_ := Aside0.mk (blk_below (g := gb303) (o := .cells #[.slice none 0 0, .slice none 0 0, .slice none 0 0] 37 (0, 0)) (byK BK303.out) hb); have n4_ := Aside0.mk (below_step (byB1 HB.out GE303.out) hb); clear HO309 HO317 BK303 HB; have HO309 := n0_; have HO317 := n1_; have HO327 := n2_; have BK303 := n3_; have HB := n4_; clear n0_ n1_ n2_ n3_ n4_
                  (try clear hb)
                  (try clear hb2)
                  (try clear hk)
                  (try clear hi)
                  (try clear ho0)
                  refine hK.out _ _ trivial (fun hHeld => ?_)
                  clear hK K
                  refine norm_ (a' := ?_) ?_ ?_
                  rotate_left
                  ·show Act.put _ (some 4) _ = _
                   simp only [putW]; rfl
                  exact norm_ (by first | (simp only [putAll, Act.put, List.setIfInBounds_toArray, List.set_cons_zero, List.set_cons_succ]; done) | (simp only [putAll, Act.put, List.setIfInBounds_toArray, List.set_cons_zero, List.set_cons_succ]; rfl)) (hJ1_2_3 (v308, v316, v326) _ ⟨(byR HO309.out), (byR HO317.out), (by (with_reducible repeat (first | apply Kd.R_alloc | apply Kd.R_drewN | apply Kd.R_drew)); exact Kd.R_mono HO327.out (fun _ hk => ⟨hk.1.1, hk.2⟩)), (byK BK303.out), (byB1 HB.out GE303.out)⟩)
               ·skip
                rintro ⟨v305, v316⟩ w10 ⟨h0_, h1_, h2_, h3_⟩
                have n0_ : Aside0 (Kd.R (Kd.int .i64) 3 w10 w.heap.size (fun k_ => (w.heap.size ≤ k_)) v305 y304) := ⟨h0_⟩
                have n1_ : Aside0 (Kd.R k120 120 w10 w.heap.size (fun k_ => (w.heap.size ≤ k_)) v316 t315) := ⟨h1_⟩
                have n2_ : Aside0 (w10.heap[gb303]? = some (.cells #[.slice none 0 0, .slice none 0 0, .slice none 0 0] 37 (0, 0))) := ⟨h2_⟩
                have n3_ : Aside0 (Below w.heap.size w w10) := ⟨h3_⟩
                clear BK303 HB h0_ h1_ h2_ h3_; have HO306 := n0_; have HO317 := n1_; have BK303 := n2_; have HB := n3_; clear n0_ n1_ n2_ n3_; have hHeld := trivial
                refine norm_ (a' := ?_) ?_ ?_
                rotate_left
                ·simp only [putAll, Act.put, List.setIfInBounds_toArray, List.set_cons_zero, List.set_cons_succ]
                 rfl
                refine two_ (i := 1) (j := 3) (Ni := some 2) (Nj := some 4) (bits 8 7) (bits 8 13) rfl rfl rfl rfl (two_of HT_.out (by kernel_rfl)) (by decide) (by decide) (fun K hK => ?_) (fun K hK => ?_)
                ·skip
                 refine Kd.R_make_step k158 _ 158 (by rfl) (N := 2) rfl 34 _ _ rfl 4 rfl rfl Try.underlying34 (.agg #[(.int .i64 0), (.int .i64 0)]) 16 info158 rfl (by decide) (by omega) z158 (ok := fun _ => True) (okp := fun _ => True) (k158_mkM _ _ _ z158 ) (fun _ hk => hk) trivial (by omega) (by omega) (Below.refl _ _) (Nat.le_refl _) ?_
                 intro v308 w11 ho12 hb hg_ hnew_; clear hg_ hnew_
                 (first | rw [← Ny307.out] at ho12 | (simp only [Int.reduceToNat] at ho12; rw [← Ny307.out] at ho12))
                 have n0_ := Aside0.mk (Kd.R_below (byR HO306.out) hb); have n1_ := Aside0.mk (Kd.R_below (byR HO317.out) hb); have n2_ := Aside0.mk (Kd.R_lower (Kd.R_newM (M := fun k_ => (w.heap.size ≤ k_)) ho12 (below_size (byB1 HB.out GE303.out)) (fun k_ h_ => h_)) (below_size (byB1 HB.out GE303.out))); have n3_ := Aside0.mk (blk_below (g := gb303) (o := .cells #[.slice none 0 0, .slice none 0 0, .slice none 0 0] 37 (0, 0)) (byK BK303.out) hb); have n4_ := Aside0.mk (below_step (byB1 HB.out GE303.out) hb); clear HO306 HO317 BK303 HB; have HO306 := n0_; have HO317 := n1_; have HO309 := n2_; have BK303 := n3_; have HB := n4_; clear n0_ n1_ n2_ n3_ n4_ hb ho12
                 refine hK.out _ _ trivial (fun hHeld => ?_)
                 clear hK K
                 refine norm_ (a' := ?_) ?_ ?_
                 rotate_left
                 ·show Act.put _ (some 2) _ = _
                  simp only [putW]; rfl
                 exact norm_ (by first | (simp only [putAll, Act.put, List.setIfInBounds_toArray, List.set_cons_zero, List.set_cons_succ]; done) | (simp only [putAll, Act.put, List.setIfInBounds_toArray, List.set_cons_zero, List.set_cons_succ]; rfl)) (hJ0_1_2 (v305, v308, v316) _ ⟨(byR HO306.out), (by (with_reducible repeat (first | apply Kd.R_alloc | apply Kd.R_drewN | apply Kd.R_drew)); exact Kd.R_mono HO309.out (fun _ hk => hk.1)), (byR HO317.out), (byK BK303.out), (byB1 HB.out GE303.out)⟩)
                ·skip
                 refine goes_ Try.func46 (by kernel_rfl) rfl #[.int .i64 1, .int .i64 2, .int .i64 3] (by rfl) rfl rfl byL ?_
                 with_reducible refine (mapmakerlaw47_piece.calls 1 2 3 t320 t321 t322 t323 t324 t325 t328 t329 _ A3.out).mono ?_
                 rintro e w11 ⟨v326, rfl, ho0, hb⟩
                 refine ⟨_, rfl, ?_⟩
                 have n0_ := Aside0.mk (Kd.R_below (byR HO306.out) hb); have n1_ := Aside0.mk (Kd.R_elder' (byR HO317.out) (Kd.R_base ho0) hb); have n2_ := Aside0.mk (Kd.R_lower (Kd.R_new' (Kd.R_newM (M := fun k_ => (w.heap.size ≤ k_)) ho0 (below_size (byB1 HB.out GE303.out)) (fun k_ h_ => h_)) (Kd.R_lt (byR HO317.out))) (below_size (byB1 HB.out GE303.out))); have n3_ := Aside0.mk (blk_below (g := gb303) (o := .cells #[.slice none 0 0, .slice none 0 0, .slice none 0 0] 37 (0, 0)) (byK BK303.out) hb); have n4_ := Aside0.mk (below_step (byB1 HB.out GE303.out) hb); clear HO306 HO317 BK303 HB; have HO306 := n0_; have HO317 := n1_; have HO327 := n2_; have BK303 := n3_; have HB := n4_; clear n0_ n1_ n2_ n3_ n4_
                 (try clear hb)
                 (try clear hb2)
                 (try clear hk)
                 (try clear hi)
                 (try clear ho0)
                 refine hK.out _ _ trivial (fun hHeld => ?_)
                 clear hK K
                 refine norm_ (a' := ?_) ?_ ?_
                 rotate_left
                 ·show Act.put _ (some 4) _ = _
                  simp only [putW]; rfl
                 exact norm_ (by first | (simp only [putAll, Act.put, List.setIfInBounds_toArray, List.set_cons_zero, List.set_cons_succ]; done) | (simp only [putAll, Act.put, List.setIfInBounds_toArray, List.set_cons_zero, List.set_cons_succ]; rfl)) (hJ0_2_3 (v305, v316, v326) _ ⟨(byR HO306.out), (byR HO317.out), (by (with_reducible repeat (first | apply Kd.R_alloc | apply Kd.R_drewN | apply Kd.R_drew)); exact Kd.R_mono HO327.out (fun _ hk => ⟨hk.1.1, hk.2⟩)), (byK BK303.out), (byB1 HB.out GE303.out)⟩)
              ·skip
               rintro ⟨v305, v308⟩ w11 ⟨h0_, h1_, h2_, h3_⟩
               have n0_ : Aside0 (Kd.R (Kd.int .i64) 3 w11 w.heap.size (fun k_ => (w.heap.size ≤ k_)) v305 y304) := ⟨h0_⟩
               have n1_ : Aside0 (Kd.R k158 158 w11 w.heap.size (fun k_ => (w.heap.size ≤ k_)) v308 y307) := ⟨h1_⟩
               have n2_ : Aside0 (w11.heap[gb303]? = some (.cells #[.slice none 0 0, .slice none 0 0, .slice none 0 0] 37 (0, 0))) := ⟨h2_⟩
               have n3_ : Aside0 (Below w.heap.size w w11) := ⟨h3_⟩
               clear BK303 HB h0_ h1_ h2_ h3_; have HO306 := n0_; have HO309 := n1_; have BK303 := n2_; have HB := n3_; clear n0_ n1_ n2_ n3_; have hHeld := trivial
               refine norm_ (a' := ?_) ?_ ?_
               rotate_left
               ·simp only [putAll, Act.put, List.setIfInBounds_toArray, List.set_cons_zero, List.set_cons_succ]
                rfl
               refine one_ (i := 2) (N := some 3) (bits 8 7) rfl rfl (one_of HT_.out (by kernel_rfl)) (by decide) (fun K hK => ?_)
               refine goes_ Try.func46 (by kernel_rfl) rfl #[.int .i64 0, .int .i64 1, .int .i64 1] (by rfl) rfl rfl byL ?_
               with_reducible refine (mapmakerlaw47_piece.calls 0 1 1 t310 t311 t312 t313 t314 t315 t318 t319 _ A2.out).mono ?_
               rintro e w12 ⟨v316, rfl, ho0, hb⟩
               refine ⟨_, rfl, ?_⟩
               have n0_ := Aside0.mk (Kd.R_below (byR HO306.out) hb); have n1_ := Aside0.mk (Kd.R_below (byR HO309.out) hb); have n2_ := Aside0.mk (Kd.R_lower (Kd.R_newM (M := fun k_ => (w.heap.size ≤ k_)) ho0 (below_size (byB1 HB.out GE303.out)) (fun k_ h_ => h_)) (below_size (byB1 HB.out GE303.out))); have n3_ := Aside0.mk (blk_below (g := gb303) (o := .cells #[.slice none 0 0, .slice none 0 0, .slice none 0 0] 37 (0, 0)) (byK BK303.out) hb); have n4_ := Aside0.mk (below_step (byB1 HB.out GE303.out) hb); clear HO306 HO309 BK303 HB; have HO306 := n0_; have HO309 := n1_; have HO317 := n2_; have BK303 := n3_; have HB := n4_; clear n0_ n1_ n2_ n3_ n4_
               (try clear hb)
               (try clear hb2)
               (try clear hk)
               (try clear hi)
               (try clear ho0)
               refine hK.out _ _ trivial (fun hHeld => ?_)
               clear hK K
               refine norm_ (a' := ?_) ?_ ?_
               rotate_left
               ·show Act.put _ (some 3) _ = _
                simp only [putW]; rfl
               exact norm_ (by first | (simp only [putAll, Act.put, List.setIfInBounds_toArray, List.set_cons_zero, List.set_cons_succ]; done) | (simp only [putAll, Act.put, List.setIfInBounds_toArray, List.set_cons_zero, List.set_cons_succ]; rfl)) (hJ0_1_2 (v305, v308, v316) _ ⟨(byR HO306.out), (byR HO309.out), (by (with_reducible repeat (first | apply Kd.R_alloc | apply Kd.R_drewN | apply Kd.R_drew)); exact Kd.R_mono HO317.out (fun _ hk => hk.1)), (byK BK303.out), (byB1 HB.out GE303.out)⟩)
             ·skip
              rintro ⟨v316, v326, v336⟩ w10 ⟨h0_, h1_, h2_, h3_, h4_⟩
              have n0_ : Aside0 (Kd.R k120 120 w10 w.heap.size (fun k_ => (w.heap.size ≤ k_) ∧ some k_ ≠ (v326 : Value).ownBlock ∧ some k_ ≠ (v336 : Value).ownBlock) v316 t315) := ⟨h0_⟩
              have n1_ : Aside0 (Kd.R k120 120 w10 w.heap.size (fun k_ => (w.heap.size ≤ k_) ∧ some k_ ≠ (v316 : Value).ownBlock ∧ some k_ ≠ (v336 : Value).ownBlock) v326 t325) := ⟨h1_⟩
              have n2_ : Aside0 (Kd.R k120 120 w10 w.heap.size (fun k_ => (w.heap.size ≤ k_) ∧ some k_ ≠ (v316 : Value).ownBlock ∧ some k_ ≠ (v326 : Value).ownBlock) v336 t335) := ⟨h2_⟩
              have n3_ : Aside0 (w10.heap[gb303]? = some (.cells #[.slice none 0 0, .slice none 0 0, .slice none 0 0] 37 (0, 0))) := ⟨h3_⟩
              have n4_ : Aside0 (Below w.heap.size w w10) := ⟨h4_⟩
              clear BK303 HB h0_ h1_ h2_ h3_ h4_; have HO317 := n0_; have HO327 := n1_; have HO337 := n2_; have BK303 := n3_; have HB := n4_; clear n0_ n1_ n2_ n3_ n4_; have hHeld := trivial
              refine norm_ (a' := ?_) ?_ ?_
              rotate_left
              ·simp only [putAll, Act.put, List.setIfInBounds_toArray, List.set_cons_zero, List.set_cons_succ]
               rfl
              refine three_ (i := 0) (j := 1) (k := 5) (Ni := some 1) (Nj := some 2) (Nk := some 6) (bits 8 29) (bits 8 30) (bits 8 60) rfl rfl rfl rfl rfl rfl (three_of HT_.out (by kernel_rfl)) (by decide) (by decide) (by decide) (fun K hK => ?_) (fun K hK => ?_) (fun K hK => ?_)
              ·skip
               refine Kd.R_lit_step (Kd.int .i64) _ 3 ?hg (N := 1) ?hd (xs := ([1, 2, 3, 4] : List Int)) (inner := [.int .i64 1, .int .i64 2, .int .i64 3, .int .i64 4]) (ok := fun _ => True) (okp := fun _ => True) ?hr ?hp (fun _ hk => hk) trivial (Below.refl _ _) (Nat.le_refl _) (by simp) ?_; (case hd => rfl); (case hg => rfl); (case hr => first | (go_simp; done) | (go_simp; rfl)); (case hp => exact (Reps.one (show Kd.M (Kd.int .i64) _ _ _ 1 [.int .i64 1] from rfl) (Reps.one (show Kd.M (Kd.int .i64) _ _ _ 2 [.int .i64 2] from rfl) (Reps.one (show Kd.M (Kd.int .i64) _ _ _ 3 [.int .i64 3] from rfl) (Reps.one (show Kd.M (Kd.int .i64) _ _ _ 4 [.int .i64 4] from rfl) (Reps.none _ _))))))
               intro v305 w11 ho12 hb hg_ hnew_; clear hg_ hnew_
               (first | rw [← Ny304.out] at ho12 | (simp only [Int.reduceToNat] at ho12; rw [← Ny304.out] at ho12))
               have n0_ := Aside0.mk (Kd.R_below (byR HO317.out) hb); have n1_ := Aside0.mk (Kd.R_below (byR HO327.out) hb); have n2_ := Aside0.mk (Kd.R_below (byR HO337.out) hb); have n3_ := Aside0.mk (Kd.R_lower (Kd.R_newM (M := fun k_ => (w.heap.size ≤ k_)) ho12 (below_size (byB1 HB.out GE303.out)) (fun k_ h_ => h_)) (below_size (byB1 HB.out GE303.out))); have n4_ := Aside0.mk (blk_below (g := gb303) (o := .cells #[.slice none 0 0, .slice none 0 0, .slice none 0 0] 37 (0, 0)) (byK BK303.out) hb); have n5_ := Aside0.mk (below_step (byB1 HB.out GE303.out) hb); clear HO317 HO327 HO337 BK303 HB; have HO317 := n0_; have HO327 := n1_; have HO337 := n2_; have HO306 := n3_; have BK303 := n4_; have HB := n5_; clear n0_ n1_ n2_ n3_ n4_ n5_ hb ho12
               refine hK.out _ _ trivial (fun hHeld => ?_)
               clear hK K
               refine norm_ (a' := ?_) ?_ ?_
               rotate_left
               ·show Act.put _ (some 1) _ = _
                simp only [putW]; rfl
               exact norm_ (by first | (simp only [putAll, Act.put, List.setIfInBounds_toArray, List.set_cons_zero, List.set_cons_succ]; done) | (simp only [putAll, Act.put, List.setIfInBounds_toArray, List.set_cons_zero, List.set_cons_succ]; rfl)) (hJ0_2_3_4 (v305, v316, v326, v336) _ ⟨(by (with_reducible repeat (first | apply Kd.R_alloc | apply Kd.R_drewN | apply Kd.R_drew)); exact Kd.R_mono HO306.out (fun _ hk => hk.1)), (byR HO317.out), (byR HO327.out), (byR HO337.out), (byK BK303.out), (byB1 HB.out GE303.out)⟩)
              ·skip
               refine Kd.R_make_step k158 _ 158 (by rfl) (N := 2) rfl 34 _ _ rfl 4 rfl rfl Try.underlying34 (.agg #[(.int .i64 0), (.int .i64 0)]) 16 info158 rfl (by decide) (by omega) z158 (ok := fun _ => True) (okp := fun _ => True) (k158_mkM _ _ _ z158 ) (fun _ hk => hk) trivial (by omega) (by omega) (Below.refl _ _) (Nat.le_refl _) ?_
               intro v308 w11 ho12 hb hg_ hnew_; clear hg_ hnew_
               (first | rw [← Ny307.out] at ho12 | (simp only [Int.reduceToNat] at ho12; rw [← Ny307.out] at ho12))
               have n0_ := Aside0.mk (Kd.R_below (byR HO317.out) hb); have n1_ := Aside0.mk (Kd.R_below (byR HO327.out) hb); have n2_ := Aside0.mk (Kd.R_below (byR HO337.out) hb); have n3_ := Aside0.mk (Kd.R_lower (Kd.R_newM (M := fun k_ => (w.heap.size ≤ k_)) ho12 (below_size (byB1 HB.out GE303.out)) (fun k_ h_ => h_)) (below_size (byB1 HB.out GE303.out))); have n4_ := Aside0.mk (blk_below (g := gb303) (o := .cells #[.slice none 0 0, .slice none 0 0, .slice none 0 0] 37 (0, 0)) (byK BK303.out) hb); have n5_ := Aside0.mk (below_step (byB1 HB.out GE303.out) hb); clear HO317 HO327 HO337 BK303 HB; have HO317 := n0_; have HO327 := n1_; have HO337 := n2_; have HO309 := n3_; have BK303 := n4_; have HB := n5_; clear n0_ n1_ n2_ n3_ n4_ n5_ hb ho12
               refine hK.out _ _ trivial (fun hHeld => ?_)
               clear hK K
               refine norm_ (a' := ?_) ?_ ?_
               rotate_left
               ·show Act.put _ (some 2) _ = _
                simp only [putW]; rfl
               exact norm_ (by first | (simp only [putAll, Act.put, List.setIfInBounds_toArray, List.set_cons_zero, List.set_cons_succ]; done) | (simp only [putAll, Act.put, List.setIfInBounds_toArray, List.set_cons_zero, List.set_cons_succ]; rfl)) (hJ1_2_3_4 (v308, v316, v326, v336) _ ⟨(by (with_reducible repeat (first | apply Kd.R_alloc | apply Kd.R_drewN | apply Kd.R_drew)); exact Kd.R_mono HO309.out (fun _ hk => hk.1)), (byR HO317.out), (byR HO327.out), (byR HO337.out), (byK BK303.out), (byB1 HB.out GE303.out)⟩)
              ·skip
               try (obtain ⟨Ao11, co11, eo11⟩ := Kd.R_slice HO317.out; subst eo11)
               try (obtain ⟨Ao12, co12, eo12⟩ := Kd.R_slice HO327.out; subst eo12)
               try (obtain ⟨Ao13, co13, eo13⟩ := Kd.R_slice HO337.out; subst eo13)
               refine Kd.N_lit_step k58 _ 58 ?hg (N' := 6) ?hd (xs := ([(⟨t310, t311, t312, t313, t314, (⟨t315, t318, t319⟩ : S56)⟩ : S58), (⟨t320, t321, t322, t323, t324, (⟨t325, t328, t329⟩ : S56)⟩ : S58), (⟨t330, t331, t332, t333, t334, (⟨t335, t338, t339⟩ : S56)⟩ : S58)] : List (S58))) (inner := [.int .i64 t310, .int .i64 t311, .int .i64 t312, .int .i64 t313, .int .i64 t314, .slice Ao11 t315.length co11, .int .i64 t318, .int .i64 t319, .int .i64 t320, .int .i64 t321, .int .i64 t322, .int .i64 t323, .int .i64 t324, .slice Ao12 t325.length co12, .int .i64 t328, .int .i64 t329, .int .i64 t330, .int .i64 t331, .int .i64 t332, .int .i64 t333, .int .i64 t334, .slice Ao13 t335.length co13, .int .i64 t338, .int .i64 t339]) (ok := (fun k_ => (w.heap.size ≤ k_) ∧ k_ ≠ gb303)) (okp := (fun k_ => (w.heap.size ≤ k_) ∧ k_ ≠ gb303)) ?hr ?hp (fun _ hk => hk) ((show ∀ k_, w10.heap.size ≤ k_ → (fun k_ => (w.heap.size ≤ k_) ∧ k_ ≠ gb303) k_ from fun k_ hk => ⟨(Nat.le_trans (below_size (byB1 HB.out GE303.out)) hk), Kd.freshB (g := gb303) (o := .cells #[.slice none 0 0, .slice none 0 0, .slice none 0 0] 37 (0, 0)) (byK BK303.out) k_ hk⟩) _ (Nat.le_refl _)) (Below.refl _ _) (Nat.le_refl _) (by simp) ?_; (case hd => rfl); (case hg => rfl); (case hr => first | (go_simp; done) | (go_simp; rfl)); (case hp => exact (Reps.c8 (show Kd.FK k58 _ _ (⟨t310, t311, t312, t313, t314, (⟨t315, t318, t319⟩ : S56)⟩ : S58) [.int .i64 t310, .int .i64 t311, .int .i64 t312, .int .i64 t313, .int .i64 t314, .slice Ao11 t315.length co11, .int .i64 t318, .int .i64 t319] from (k58_mkF _ _ (⟨t310, t311, t312, t313, t314, (⟨t315, t318, t319⟩ : S56)⟩ : S58) (Kd.R_reads' (Kd.R_mono (ok' := (fun k_ => (w.heap.size ≤ k_) ∧ k_ ≠ gb303)) (Kd.R_types (HO317.out) BK303.out (by decide)) (fun k_ hk => ⟨hk.1.1, hk.2⟩))).2.1 (Kd.R_F (Kd.R_mono (ok' := (fun k_ => (w.heap.size ≤ k_) ∧ k_ ≠ gb303)) (Kd.R_types (HO317.out) BK303.out (by decide)) (fun k_ hk => ⟨hk.1.1, hk.2⟩))))) (Reps.c8 (show Kd.FK k58 _ _ (⟨t320, t321, t322, t323, t324, (⟨t325, t328, t329⟩ : S56)⟩ : S58) [.int .i64 t320, .int .i64 t321, .int .i64 t322, .int .i64 t323, .int .i64 t324, .slice Ao12 t325.length co12, .int .i64 t328, .int .i64 t329] from (k58_mkF _ _ (⟨t320, t321, t322, t323, t324, (⟨t325, t328, t329⟩ : S56)⟩ : S58) (Kd.R_reads' (Kd.R_mono (ok' := (fun k_ => (w.heap.size ≤ k_) ∧ k_ ≠ gb303)) (Kd.R_types (HO327.out) BK303.out (by decide)) (fun k_ hk => ⟨hk.1.1, hk.2⟩))).2.1 (Kd.R_F (Kd.R_mono (ok' := (fun k_ => (w.heap.size ≤ k_) ∧ k_ ≠ gb303)) (Kd.R_types (HO327.out) BK303.out (by decide)) (fun k_ hk => ⟨hk.1.1, hk.2⟩))))) (Reps.c8 (show Kd.FK k58 _ _ (⟨t330, t331, t332, t333, t334, (⟨t335, t338, t339⟩ : S56)⟩ : S58) [.int .i64 t330, .int .i64 t331, .int .i64 t332, .int .i64 t333, .int .i64 t334, .slice Ao13 t335.length co13, .int .i64 t338, .int .i64 t339] from (k58_mkF _ _ (⟨t330, t331, t332, t333, t334, (⟨t335, t338, t339⟩ : S56)⟩ : S58) (Kd.R_reads' (Kd.R_mono (ok' := (fun k_ => (w.heap.size ≤ k_) ∧ k_ ≠ gb303)) (Kd.R_types (HO337.out) BK303.out (by decide)) (fun k_ hk => ⟨hk.1.1, hk.2⟩))).2.1 (Kd.R_F (Kd.R_mono (ok' := (fun k_ => (w.heap.size ≤ k_) ∧ k_ ≠ gb303)) (Kd.R_types (HO337.out) BK303.out (by decide)) (fun k_ hk => ⟨hk.1.1, hk.2⟩))))) (Reps.none _ _)))))
               intro v341 w14 ho15 hb hg_ hnew_; clear hg_ hnew_
               (first | rw [← Ny340.out] at ho15 | (simp only [Int.reduceToNat] at ho15; rw [← Ny340.out] at ho15))
               have n0_ := Aside0.mk (Kd.N_lower ho15 (below_size (byB1 HB.out GE303.out))); have n1_ := Aside0.mk (blk_below (g := gb303) (o := .cells #[.slice none 0 0, .slice none 0 0, .slice none 0 0] 37 (0, 0)) (byK BK303.out) hb); have n2_ := Aside0.mk (below_step (byB1 HB.out GE303.out) hb); clear BK303 HB HO317 HO327 HO337; have HO342 := n0_; have BK303 := n1_; have HB := n2_; clear n0_ n1_ n2_ hb ho15
               refine hK.out _ _ trivial (fun hHeld => ?_)
               clear hK K
               refine norm_ (a' := ?_) ?_ ?_
               rotate_left
               ·show Act.put _ (some 6) _ = _
                simp only [putW]; rfl
               exact norm_ (by first | (simp only [putAll, Act.put, List.setIfInBounds_toArray, List.set_cons_zero, List.set_cons_succ]; done) | (simp only [putAll, Act.put, List.setIfInBounds_toArray, List.set_cons_zero, List.set_cons_succ]; rfl)) (hJ2_3_4_5 (.slice Ao11 t315.length co11, .slice Ao12 t325.length co12, .slice Ao13 t335.length co13, v341) _ ⟨(byN HO342.out), (byK BK303.out), (byB1 HB.out GE303.out)⟩)
            ·skip
             rintro ⟨v308, v316, v326⟩ w11 ⟨h0_, h1_, h2_, h3_, h4_⟩
             have n0_ : Aside0 (Kd.R k158 158 w11 w.heap.size (fun k_ => (w.heap.size ≤ k_)) v308 y307) := ⟨h0_⟩
             have n1_ : Aside0 (Kd.R k120 120 w11 w.heap.size (fun k_ => (w.heap.size ≤ k_) ∧ some k_ ≠ (v326 : Value).ownBlock) v316 t315) := ⟨h1_⟩
             have n2_ : Aside0 (Kd.R k120 120 w11 w.heap.size (fun k_ => (w.heap.size ≤ k_) ∧ some k_ ≠ (v316 : Value).ownBlock) v326 t325) := ⟨h2_⟩
             have n3_ : Aside0 (w11.heap[gb303]? = some (.cells #[.slice none 0 0, .slice none 0 0, .slice none 0 0] 37 (0, 0))) := ⟨h3_⟩
             have n4_ : Aside0 (Below w.heap.size w w11) := ⟨h4_⟩
             clear BK303 HB h0_ h1_ h2_ h3_ h4_; have HO309 := n0_; have HO317 := n1_; have HO327 := n2_; have BK303 := n3_; have HB := n4_; clear n0_ n1_ n2_ n3_ n4_; have hHeld := trivial
             refine norm_ (a' := ?_) ?_ ?_
             rotate_left
             ·simp only [putAll, Act.put, List.setIfInBounds_toArray, List.set_cons_zero, List.set_cons_succ]
              rfl
             refine two_ (i := 0) (j := 4) (Ni := some 1) (Nj := some 5) (bits 8 15) (bits 8 30) rfl rfl rfl rfl (two_of HT_.out (by kernel_rfl)) (by decide) (by decide) (fun K hK => ?_) (fun K hK => ?_)
             ·skip
              refine Kd.R_lit_step (Kd.int .i64) _ 3 ?hg (N := 1) ?hd (xs := ([1, 2, 3, 4] : List Int)) (inner := [.int .i64 1, .int .i64 2, .int .i64 3, .int .i64 4]) (ok := fun _ => True) (okp := fun _ => True) ?hr ?hp (fun _ hk => hk) trivial (Below.refl _ _) (Nat.le_refl _) (by simp) ?_; (case hd => rfl); (case hg => rfl); (case hr => first | (go_simp; done) | (go_simp; rfl)); (case hp => exact (Reps.one (show Kd.M (Kd.int .i64) _ _ _ 1 [.int .i64 1] from rfl) (Reps.one (show Kd.M (Kd.int .i64) _ _ _ 2 [.int .i64 2] from rfl) (Reps.one (show Kd.M (Kd.int .i64) _ _ _ 3 [.int .i64 3] from rfl) (Reps.one (show Kd.M (Kd.int .i64) _ _ _ 4 [.int .i64 4] from rfl) (Reps.none _ _))))))
              intro v305 w12 ho13 hb hg_ hnew_; clear hg_ hnew_
              (first | rw [← Ny304.out] at ho13 | (simp only [Int.reduceToNat] at ho13; rw [← Ny304.out] at ho13))
              have n0_ := Aside0.mk (Kd.R_below (byR HO309.out) hb); have n1_ := Aside0.mk (Kd.R_below (byR HO317.out) hb); have n2_ := Aside0.mk (Kd.R_below (byR HO327.out) hb); have n3_ := Aside0.mk (Kd.R_lower (Kd.R_newM (M := fun k_ => (w.heap.size ≤ k_)) ho13 (below_size (byB1 HB.out GE303.out)) (fun k_ h_ => h_)) (below_size (byB1 HB.out GE303.out))); have n4_ := Aside0.mk (blk_below (g := gb303) (o := .cells #[.slice none 0 0, .slice none 0 0, .slice none 0 0] 37 (0, 0)) (byK BK303.out) hb); have n5_ := Aside0.mk (below_step (byB1 HB.out GE303.out) hb); clear HO309 HO317 HO327 BK303 HB; have HO309 := n0_; have HO317 := n1_; have HO327 := n2_; have HO306 := n3_; have BK303 := n4_; have HB := n5_; clear n0_ n1_ n2_ n3_ n4_ n5_ hb ho13
              refine hK.out _ _ trivial (fun hHeld => ?_)
              clear hK K
              refine norm_ (a' := ?_) ?_ ?_
              rotate_left
              ·show Act.put _ (some 1) _ = _
               simp only [putW]; rfl
              exact norm_ (by first | (simp only [putAll, Act.put, List.setIfInBounds_toArray, List.set_cons_zero, List.set_cons_succ]; done) | (simp only [putAll, Act.put, List.setIfInBounds_toArray, List.set_cons_zero, List.set_cons_succ]; rfl)) (hJ0_1_2_3 (v305, v308, v316, v326) _ ⟨(by (with_reducible repeat (first | apply Kd.R_alloc | apply Kd.R_drewN | apply Kd.R_drew)); exact Kd.R_mono HO306.out (fun _ hk => hk.1)), (byR HO309.out), (byR HO317.out), (byR HO327.out), (byK BK303.out), (byB1 HB.out GE303.out)⟩)
             ·skip
              refine goes_ Try.func46 (by kernel_rfl) rfl #[.int .i64 1, .int .i64 3, .int .i64 4] (by rfl) rfl rfl byL ?_
              with_reducible refine (mapmakerlaw47_piece.calls 1 3 4 t330 t331 t332 t333 t334 t335 t338 t339 _ A4.out).mono ?_
              rintro e w12 ⟨v336, rfl, ho0, hb⟩
              refine ⟨_, rfl, ?_⟩
              have n0_ := Aside0.mk (Kd.R_below (byR HO309.out) hb); have n1_ := Aside0.mk (Kd.R_elder' (byR HO317.out) (Kd.R_base ho0) hb); have n2_ := Aside0.mk (Kd.R_elder' (byR HO327.out) (Kd.R_base ho0) hb); have n3_ := Aside0.mk (Kd.R_lower (Kd.R_new' (Kd.R_new' (Kd.R_newM (M := fun k_ => (w.heap.size ≤ k_)) ho0 (below_size (byB1 HB.out GE303.out)) (fun k_ h_ => h_)) (Kd.R_lt (byR HO317.out))) (Kd.R_lt (byR HO327.out))) (below_size (byB1 HB.out GE303.out))); have n4_ := Aside0.mk (blk_below (g := gb303) (o := .cells #[.slice none 0 0, .slice none 0 0, .slice none 0 0] 37 (0, 0)) (byK BK303.out) hb); have n5_ := Aside0.mk (below_step (byB1 HB.out GE303.out) hb); clear HO309 HO317 HO327 BK303 HB; have HO309 := n0_; have HO317 := n1_; have HO327 := n2_; have HO337 := n3_; have BK303 := n4_; have HB := n5_; clear n0_ n1_ n2_ n3_ n4_ n5_
              (try clear hb)
              (try clear hb2)
              (try clear hk)
              (try clear hi)
              (try clear ho0)
              refine hK.out _ _ trivial (fun hHeld => ?_)
              clear hK K
              refine norm_ (a' := ?_) ?_ ?_
              rotate_left
              ·show Act.put _ (some 5) _ = _
               simp only [putW]; rfl
              exact norm_ (by first | (simp only [putAll, Act.put, List.setIfInBounds_toArray, List.set_cons_zero, List.set_cons_succ]; done) | (simp only [putAll, Act.put, List.setIfInBounds_toArray, List.set_cons_zero, List.set_cons_succ]; rfl)) (hJ1_2_3_4 (v308, v316, v326, v336) _ ⟨(byR HO309.out), (by (with_reducible repeat (first | apply Kd.R_alloc | apply Kd.R_drewN | apply Kd.R_drew)); exact Kd.R_mono HO317.out (fun _ hk => ⟨hk.1.1, ⟨hk.1.2, hk.2⟩⟩)), (by (with_reducible repeat (first | apply Kd.R_alloc | apply Kd.R_drewN | apply Kd.R_drew)); exact Kd.R_mono HO327.out (fun _ hk => ⟨hk.1.1, ⟨hk.1.2, hk.2⟩⟩)), (by (with_reducible repeat (first | apply Kd.R_alloc | apply Kd.R_drewN | apply Kd.R_drew)); exact Kd.R_mono HO337.out (fun _ hk => ⟨hk.1.1.1, ⟨hk.1.2, hk.2⟩⟩)), (byK BK303.out), (byB1 HB.out GE303.out)⟩)
           ·skip
            rintro ⟨v305, v316, v326⟩ w11 ⟨h0_, h1_, h2_, h3_, h4_⟩
            have n0_ : Aside0 (Kd.R (Kd.int .i64) 3 w11 w.heap.size (fun k_ => (w.heap.size ≤ k_)) v305 y304) := ⟨h0_⟩
            have n1_ : Aside0 (Kd.R k120 120 w11 w.heap.size (fun k_ => (w.heap.size ≤ k_) ∧ some k_ ≠ (v326 : Value).ownBlock) v316 t315) := ⟨h1_⟩
            have n2_ : Aside0 (Kd.R k120 120 w11 w.heap.size (fun k_ => (w.heap.size ≤ k_) ∧ some k_ ≠ (v316 : Value).ownBlock) v326 t325) := ⟨h2_⟩
            have n3_ : Aside0 (w11.heap[gb303]? = some (.cells #[.slice none 0 0, .slice none 0 0, .slice none 0 0] 37 (0, 0))) := ⟨h3_⟩
            have n4_ : Aside0 (Below w.heap.size w w11) := ⟨h4_⟩
            clear BK303 HB h0_ h1_ h2_ h3_ h4_; have HO306 := n0_; have HO317 := n1_; have HO327 := n2_; have BK303 := n3_; have HB := n4_; clear n0_ n1_ n2_ n3_ n4_; have hHeld := trivial
            refine norm_ (a' := ?_) ?_ ?_
            rotate_left
            ·simp only [putAll, Act.put, List.setIfInBounds_toArray, List.set_cons_zero, List.set_cons_succ]
             rfl
            refine two_ (i := 1) (j := 4) (Ni := some 2) (Nj := some 5) (bits 8 15) (bits 8 29) rfl rfl rfl rfl (two_of HT_.out (by kernel_rfl)) (by decide) (by decide) (fun K hK => ?_) (fun K hK => ?_)
            ·skip
             refine Kd.R_make_step k158 _ 158 (by rfl) (N := 2) rfl 34 _ _ rfl 4 rfl rfl Try.underlying34 (.agg #[(.int .i64 0), (.int .i64 0)]) 16 info158 rfl (by decide) (by omega) z158 (ok := fun _ => True) (okp := fun _ => True) (k158_mkM _ _ _ z158 ) (fun _ hk => hk) trivial (by omega) (by omega) (Below.refl _ _) (Nat.le_refl _) ?_
             intro v308 w12 ho13 hb hg_ hnew_; clear hg_ hnew_
             (first | rw [← Ny307.out] at ho13 | (simp only [Int.reduceToNat] at ho13; rw [← Ny307.out] at ho13))
             have n0_ := Aside0.mk (Kd.R_below (byR HO306.out) hb); have n1_ := Aside0.mk (Kd.R_below (byR HO317.out) hb); have n2_ := Aside0.mk (Kd.R_below (byR HO327.out) hb); have n3_ := Aside0.mk (Kd.R_lower (Kd.R_newM (M := fun k_ => (w.heap.size ≤ k_)) ho13 (below_size (byB1 HB.out GE303.out)) (fun k_ h_ => h_)) (below_size (byB1 HB.out GE303.out))); have n4_ := Aside0.mk (blk_below (g := gb303) (o := .cells #[.slice none 0 0, .slice none 0 0, .slice none 0 0] 37 (0, 0)) (byK BK303.out) hb); have n5_ := Aside0.mk (below_step (byB1 HB.out GE303.out) hb); clear HO306 HO317 HO327 BK303 HB; have HO306 := n0_; have HO317 := n1_; have HO327 := n2_; have HO309 := n3_; have BK303 := n4_; have HB := n5_; clear n0_ n1_ n2_ n3_ n4_ n5_ hb ho13
             refine hK.out _ _ trivial (fun hHeld => ?_)
             clear hK K
             refine norm_ (a' := ?_) ?_ ?_
             rotate_left
             ·show Act.put _ (some 2) _ = _
              simp only [putW]; rfl
             exact norm_ (by first | (simp only [putAll, Act.put, List.setIfInBounds_toArray, List.set_cons_zero, List.set_cons_succ]; done) | (simp only [putAll, Act.put, List.setIfInBounds_toArray, List.set_cons_zero, List.set_cons_succ]; rfl)) (hJ0_1_2_3 (v305, v308, v316, v326) _ ⟨(byR HO306.out), (by (with_reducible repeat (first | apply Kd.R_alloc | apply Kd.R_drewN | apply Kd.R_drew)); exact Kd.R_mono HO309.out (fun _ hk => hk.1)), (byR HO317.out), (byR HO327.out), (byK BK303.out), (byB1 HB.out GE303.out)⟩)
            ·skip
             refine goes_ Try.func46 (by kernel_rfl) rfl #[.int .i64 1, .int .i64 3, .int .i64 4] (by rfl) rfl rfl byL ?_
             with_reducible refine (mapmakerlaw47_piece.calls 1 3 4 t330 t331 t332 t333 t334 t335 t338 t339 _ A4.out).mono ?_
             rintro e w12 ⟨v336, rfl, ho0, hb⟩
             refine ⟨_, rfl, ?_⟩
             have n0_ := Aside0.mk (Kd.R_below (byR HO306.out) hb); have n1_ := Aside0.mk (Kd.R_elder' (byR HO317.out) (Kd.R_base ho0) hb); have n2_ := Aside0.mk (Kd.R_elder' (byR HO327.out) (Kd.R_base ho0) hb); have n3_ := Aside0.mk (Kd.R_lower (Kd.R_new' (Kd.R_new' (Kd.R_newM (M := fun k_ => (w.heap.size ≤ k_)) ho0 (below_size (byB1 HB.out GE303.out)) (fun k_ h_ => h_)) (Kd.R_lt (byR HO317.out))) (Kd.R_lt (byR HO327.out))) (below_size (byB1 HB.out GE303.out))); have n4_ := Aside0.mk (blk_below (g := gb303) (o := .cells #[.slice none 0 0, .slice none 0 0, .slice none 0 0] 37 (0, 0)) (byK BK303.out) hb); have n5_ := Aside0.mk (below_step (byB1 HB.out GE303.out) hb); clear HO306 HO317 HO327 BK303 HB; have HO306 := n0_; have HO317 := n1_; have HO327 := n2_; have HO337 := n3_; have BK303 := n4_; have HB := n5_; clear n0_ n1_ n2_ n3_ n4_ n5_
             (try clear hb)
             (try clear hb2)
             (try clear hk)
             (try clear hi)
             (try clear ho0)
             refine hK.out _ _ trivial (fun hHeld => ?_)
             clear hK K
             refine norm_ (a' := ?_) ?_ ?_
             rotate_left
             ·show Act.put _ (some 5) _ = _
              simp only [putW]; rfl
             exact norm_ (by first | (simp only [putAll, Act.put, List.setIfInBounds_toArray, List.set_cons_zero, List.set_cons_succ]; done) | (simp only [putAll, Act.put, List.setIfInBounds_toArray, List.set_cons_zero, List.set_cons_succ]; rfl)) (hJ0_2_3_4 (v305, v316, v326, v336) _ ⟨(byR HO306.out), (by (with_reducible repeat (first | apply Kd.R_alloc | apply Kd.R_drewN | apply Kd.R_drew)); exact Kd.R_mono HO317.out (fun _ hk => ⟨hk.1.1, ⟨hk.1.2, hk.2⟩⟩)), (by (with_reducible repeat (first | apply Kd.R_alloc | apply Kd.R_drewN | apply Kd.R_drew)); exact Kd.R_mono HO327.out (fun _ hk => ⟨hk.1.1, ⟨hk.1.2, hk.2⟩⟩)), (by (with_reducible repeat (first | apply Kd.R_alloc | apply Kd.R_drewN | apply Kd.R_drew)); exact Kd.R_mono HO337.out (fun _ hk => ⟨hk.1.1.1, ⟨hk.1.2, hk.2⟩⟩)), (byK BK303.out), (byB1 HB.out GE303.out)⟩)
          ·skip
           rintro ⟨v305, v308, v316⟩ w12 ⟨h0_, h1_, h2_, h3_, h4_⟩
           have n0_ : Aside0 (Kd.R (Kd.int .i64) 3 w12 w.heap.size (fun k_ => (w.heap.size ≤ k_)) v305 y304) := ⟨h0_⟩
           have n1_ : Aside0 (Kd.R k158 158 w12 w.heap.size (fun k_ => (w.heap.size ≤ k_)) v308 y307) := ⟨h1_⟩
           have n2_ : Aside0 (Kd.R k120 120 w12 w.heap.size (fun k_ => (w.heap.size ≤ k_)) v316 t315) := ⟨h2_⟩
           have n3_ : Aside0 (w12.heap[gb303]? = some (.cells #[.slice none 0 0, .slice none 0 0, .slice none 0 0] 37 (0, 0))) := ⟨h3_⟩
           have n4_ : Aside0 (Below w.heap.size w w12) := ⟨h4_⟩
           clear BK303 HB h0_ h1_ h2_ h3_ h4_; have HO306 := n0_; have HO309 := n1_; have HO317 := n2_; have BK303 := n3_; have HB := n4_; clear n0_ n1_ n2_ n3_ n4_; have hHeld := trivial
           refine norm_ (a' := ?_) ?_ ?_
           rotate_left
           ·simp only [putAll, Act.put, List.setIfInBounds_toArray, List.set_cons_zero, List.set_cons_succ]
            rfl
           refine one_ (i := 3) (N := some 4) (bits 8 15) rfl rfl (one_of HT_.out (by kernel_rfl)) (by decide) (fun K hK => ?_)
           refine goes_ Try.func46 (by kernel_rfl) rfl #[.int .i64 1, .int .i64 2, .int .i64 3] (by rfl) rfl rfl byL ?_
           with_reducible refine (mapmakerlaw47_piece.calls 1 2 3 t320 t321 t322 t323 t324 t325 t328 t329 _ A3.out).mono ?_
           rintro e w13 ⟨v326, rfl, ho0, hb⟩
           refine ⟨_, rfl, ?_⟩
           have n0_ := Aside0.mk (Kd.R_below (byR HO306.out) hb); have n1_ := Aside0.mk (Kd.R_below (byR HO309.out) hb); have n2_ := Aside0.mk (Kd.R_elder' (byR HO317.out) (Kd.R_base ho0) hb); have n3_ := Aside0.mk (Kd.R_lower (Kd.R_new' (Kd.R_newM (M := fun k_ => (w.heap.size ≤ k_)) ho0 (below_size (byB1 HB.out GE303.out)) (fun k_ h_ => h_)) (Kd.R_lt (byR HO317.out))) (below_size (byB1 HB.out GE303.out))); have n4_ := Aside0.mk (blk_below (g := gb303) (o := .cells #[.slice none 0 0, .slice none 0 0, .slice none 0 0] 37 (0, 0)) (byK BK303.out) hb); have n5_ := Aside0.mk (below_step (byB1 HB.out GE303.out) hb); clear HO306 HO309 HO317 BK303 HB; have HO306 := n0_; have HO309 := n1_; have HO317 := n2_; have HO327 := n3_; have BK303 := n4_; have HB := n5_; clear n0_ n1_ n2_ n3_ n4_ n5_
           (try clear hb)
           (try clear hb2)
           (try clear hk)
           (try clear hi)
           (try clear ho0)
           refine hK.out _ _ trivial (fun hHeld => ?_)
           clear hK K
           refine norm_ (a' := ?_) ?_ ?_
           rotate_left
           ·show Act.put _ (some 4) _ = _
            simp only [putW]; rfl
           exact norm_ (by first | (simp only [putAll, Act.put, List.setIfInBounds_toArray, List.set_cons_zero, List.set_cons_succ]; done) | (simp only [putAll, Act.put, List.setIfInBounds_toArray, List.set_cons_zero, List.set_cons_succ]; rfl)) (hJ0_1_2_3 (v305, v308, v316, v326) _ ⟨(byR HO306.out), (byR HO309.out), (byR HO317.out), (by (with_reducible repeat (first | apply Kd.R_alloc | apply Kd.R_drewN | apply Kd.R_drew)); exact Kd.R_mono HO327.out (fun _ hk => ⟨hk.1.1, hk.2⟩)), (byK BK303.out), (byB1 HB.out GE303.out)⟩)
         ·skip
          rintro ⟨v316, v326, v336, v341⟩ w15 ⟨h0_, h1_, h2_⟩
          have n0_ : Aside0 (Kd.N k58 58 w15 w.heap.size (fun k_ => (w.heap.size ≤ k_) ∧ k_ ≠ gb303) v341 y340) := ⟨h0_⟩
          have n1_ : Aside0 (w15.heap[gb303]? = some (.cells #[.slice none 0 0, .slice none 0 0, .slice none 0 0] 37 (0, 0))) := ⟨h1_⟩
          have n2_ : Aside0 (Below w.heap.size w w15) := ⟨h2_⟩
          clear BK303 HB h0_ h1_ h2_; have HO342 := n0_; have BK303 := n1_; have HB := n2_; clear n0_ n1_ n2_; have hHeld := trivial
          refine norm_ (a' := ?_) ?_ ?_
          rotate_left
          ·simp only [putAll, Act.put, List.setIfInBounds_toArray, List.set_cons_zero, List.set_cons_succ]
           rfl
          refine two_ (i := 0) (j := 1) (Ni := some 1) (Nj := some 2) (bits 8 61) (bits 8 62) rfl rfl rfl rfl (two_of HT_.out (by kernel_rfl)) (by decide) (by decide) (fun K hK => ?_) (fun K hK => ?_)
          ·skip
           refine Kd.R_lit_step (Kd.int .i64) _ 3 ?hg (N := 1) ?hd (xs := ([1, 2, 3, 4] : List Int)) (inner := [.int .i64 1, .int .i64 2, .int .i64 3, .int .i64 4]) (ok := fun _ => True) (okp := fun _ => True) ?hr ?hp (fun _ hk => hk) trivial (Below.refl _ _) (Nat.le_refl _) (by simp) ?_; (case hd => rfl); (case hg => rfl); (case hr => first | (go_simp; done) | (go_simp; rfl)); (case hp => exact (Reps.one (show Kd.M (Kd.int .i64) _ _ _ 1 [.int .i64 1] from rfl) (Reps.one (show Kd.M (Kd.int .i64) _ _ _ 2 [.int .i64 2] from rfl) (Reps.one (show Kd.M (Kd.int .i64) _ _ _ 3 [.int .i64 3] from rfl) (Reps.one (show Kd.M (Kd.int .i64) _ _ _ 4 [.int .i64 4] from rfl) (Reps.none _ _))))))
           intro v305 w16 ho17 hb hg_ hnew_; clear hg_ hnew_
           (first | rw [← Ny304.out] at ho17 | (simp only [Int.reduceToNat] at ho17; rw [← Ny304.out] at ho17))
           have n0_ := Aside0.mk (Kd.N_elder' (byN HO342.out) (Kd.R_base ho17) hb); have n1_ := Aside0.mk (Kd.R_lower (Kd.R_newM (M := fun k_ => (w.heap.size ≤ k_)) ho17 (below_size (byB1 HB.out GE303.out)) (fun k_ h_ => h_)) (below_size (byB1 HB.out GE303.out))); have n2_ := Aside0.mk (blk_below (g := gb303) (o := .cells #[.slice none 0 0, .slice none 0 0, .slice none 0 0] 37 (0, 0)) (byK BK303.out) hb); have n3_ := Aside0.mk (below_step (byB1 HB.out GE303.out) hb); clear HO342 BK303 HB; have HO342 := n0_; have HO306 := n1_; have BK303 := n2_; have HB := n3_; clear n0_ n1_ n2_ n3_ hb ho17
           refine hK.out _ _ trivial (fun hHeld => ?_)
           clear hK K
           refine norm_ (a' := ?_) ?_ ?_
           rotate_left
           ·show Act.put _ (some 1) _ = _
            simp only [putW]; rfl
           exact norm_ (by first | (simp only [putAll, Act.put, List.setIfInBounds_toArray, List.set_cons_zero, List.set_cons_succ]; done) | (simp only [putAll, Act.put, List.setIfInBounds_toArray, List.set_cons_zero, List.set_cons_succ]; rfl)) (hJ0_2_3_4_5 (v305, v316, v326, v336, v341) _ ⟨(by (with_reducible repeat (first | apply Kd.R_alloc | apply Kd.R_drewN | apply Kd.R_drew)); exact Kd.R_mono HO306.out (fun _ hk => hk.1)), (by (with_reducible repeat (first | apply Kd.N_alloc | apply Kd.N_drewN | apply Kd.N_drew)); exact Kd.N_mono HO342.out (fun _ hk => ⟨hk.1.1, ⟨hk.2, hk.1.2⟩⟩)), (byK BK303.out), (byB1 HB.out GE303.out)⟩)
          ·skip
           refine Kd.R_make_step k158 _ 158 (by rfl) (N := 2) rfl 34 _ _ rfl 4 rfl rfl Try.underlying34 (.agg #[(.int .i64 0), (.int .i64 0)]) 16 info158 rfl (by decide) (by omega) z158 (ok := fun _ => True) (okp := fun _ => True) (k158_mkM _ _ _ z158 ) (fun _ hk => hk) trivial (by omega) (by omega) (Below.refl _ _) (Nat.le_refl _) ?_
           intro v308 w16 ho17 hb hg_ hnew_; clear hg_ hnew_
           (first | rw [← Ny307.out] at ho17 | (simp only [Int.reduceToNat] at ho17; rw [← Ny307.out] at ho17))
           have n0_ := Aside0.mk (Kd.N_elder' (byN HO342.out) (Kd.R_base ho17) hb); have n1_ := Aside0.mk (Kd.R_lower (Kd.R_newM (M := fun k_ => (w.heap.size ≤ k_)) ho17 (below_size (byB1 HB.out GE303.out)) (fun k_ h_ => h_)) (below_size (byB1 HB.out GE303.out))); have n2_ := Aside0.mk (blk_below (g := gb303) (o := .cells #[.slice none 0 0, .slice none 0 0, .slice none 0 0] 37 (0, 0)) (byK BK303.out) hb); have n3_ := Aside0.mk (below_step (byB1 HB.out GE303.out) hb); clear HO342 BK303 HB; have HO342 := n0_; have HO309 := n1_; have BK303 := n2_; have HB := n3_; clear n0_ n1_ n2_ n3_ hb ho17
           refine hK.out _ _ trivial (fun hHeld => ?_)
           clear hK K
           refine norm_ (a' := ?_) ?_ ?_
           rotate_left
           ·show Act.put _ (some 2) _ = _
            simp only [putW]; rfl
           exact norm_ (by first | (simp only [putAll, Act.put, List.setIfInBounds_toArray, List.set_cons_zero, List.set_cons_succ]; done) | (simp only [putAll, Act.put, List.setIfInBounds_toArray, List.set_cons_zero, List.set_cons_succ]; rfl)) (hJ1_2_3_4_5 (v308, v316, v326, v336, v341) _ ⟨(by (with_reducible repeat (first | apply Kd.R_alloc | apply Kd.R_drewN | apply Kd.R_drew)); exact Kd.R_mono HO309.out (fun _ hk => hk.1)), (by (with_reducible repeat (first | apply Kd.N_alloc | apply Kd.N_drewN | apply Kd.N_drew)); exact Kd.N_mono HO342.out (fun _ hk => ⟨hk.1.1, ⟨hk.2, hk.1.2⟩⟩)), (byK BK303.out), (byB1 HB.out GE303.out)⟩)
        ·skip
         rintro ⟨v308, v316, v326, v336⟩ w12 ⟨h0_, h1_, h2_, h3_, h4_, h5_⟩
         have n0_ : Aside0 (Kd.R k158 158 w12 w.heap.size (fun k_ => (w.heap.size ≤ k_)) v308 y307) := ⟨h0_⟩
         have n1_ : Aside0 (Kd.R k120 120 w12 w.heap.size (fun k_ => (w.heap.size ≤ k_) ∧ some k_ ≠ (v326 : Value).ownBlock ∧ some k_ ≠ (v336 : Value).ownBlock) v316 t315) := ⟨h1_⟩
         have n2_ : Aside0 (Kd.R k120 120 w12 w.heap.size (fun k_ => (w.heap.size ≤ k_) ∧ some k_ ≠ (v316 : Value).ownBlock ∧ some k_ ≠ (v336 : Value).ownBlock) v326 t325) := ⟨h2_⟩
         have n3_ : Aside0 (Kd.R k120 120 w12 w.heap.size (fun k_ => (w.heap.size ≤ k_) ∧ some k_ ≠ (v316 : Value).ownBlock ∧ some k_ ≠ (v326 : Value).ownBlock) v336 t335) := ⟨h3_⟩
         have n4_ : Aside0 (w12.heap[gb303]? = some (.cells #[.slice none 0 0, .slice none 0 0, .slice none 0 0] 37 (0, 0))) := ⟨h4_⟩
         have n5_ : Aside0 (Below w.heap.size w w12) := ⟨h5_⟩
         clear BK303 HB h0_ h1_ h2_ h3_ h4_ h5_; have HO309 := n0_; have HO317 := n1_; have HO327 := n2_; have HO337 := n3_; have BK303 := n4_; have HB := n5_; clear n0_ n1_ n2_ n3_ n4_ n5_; have hHeld := trivial
         refine norm_ (a' := ?_) ?_ ?_
         rotate_left
         ·simp only [putAll, Act.put, List.setIfInBounds_toArray, List.set_cons_zero, List.set_cons_succ]
          rfl
         refine two_ (i := 0) (j := 5) (Ni := some 1) (Nj := some 6) (bits 8 31) (bits 8 62) rfl rfl rfl rfl (two_of HT_.out (by kernel_rfl)) (by decide) (by decide) (fun K hK => ?_) (fun K hK => ?_)
         ·skip
          refine Kd.R_lit_step (Kd.int .i64) _ 3 ?hg (N := 1) ?hd (xs := ([1, 2, 3, 4] : List Int)) (inner := [.int .i64 1, .int .i64 2, .int .i64 3, .int .i64 4]) (ok := fun _ => True) (okp := fun _ => True) ?hr ?hp (fun _ hk => hk) trivial (Below.refl _ _) (Nat.le_refl _) (by simp) ?_; (case hd => rfl); (case hg => rfl); (case hr => first | (go_simp; done) | (go_simp; rfl)); (case hp => exact (Reps.one (show Kd.M (Kd.int .i64) _ _ _ 1 [.int .i64 1] from rfl) (Reps.one (show Kd.M (Kd.int .i64) _ _ _ 2 [.int .i64 2] from rfl) (Reps.one (show Kd.M (Kd.int .i64) _ _ _ 3 [.int .i64 3] from rfl) (Reps.one (show Kd.M (Kd.int .i64) _ _ _ 4 [.int .i64 4] from rfl) (Reps.none _ _))))))
          intro v305 w13 ho14 hb hg_ hnew_; clear hg_ hnew_
          (first | rw [← Ny304.out] at ho14 | (simp only [Int.reduceToNat] at ho14; rw [← Ny304.out] at ho14))
          have n0_ := Aside0.mk (Kd.R_below (byR HO309.out) hb); have n1_ := Aside0.mk (Kd.R_below (byR HO317.out) hb); have n2_ := Aside0.mk (Kd.R_below (byR HO327.out) hb); have n3_ := Aside0.mk (Kd.R_below (byR HO337.out) hb); have n4_ := Aside0.mk (Kd.R_lower (Kd.R_newM (M := fun k_ => (w.heap.size ≤ k_)) ho14 (below_size (byB1 HB.out GE303.out)) (fun k_ h_ => h_)) (below_size (byB1 HB.out GE303.out))); have n5_ := Aside0.mk (blk_below (g := gb303) (o := .cells #[.slice none 0 0, .slice none 0 0, .slice none 0 0] 37 (0, 0)) (byK BK303.out) hb); have n6_ := Aside0.mk (below_step (byB1 HB.out GE303.out) hb); clear HO309 HO317 HO327 HO337 BK303 HB; have HO309 := n0_; have HO317 := n1_; have HO327 := n2_; have HO337 := n3_; have HO306 := n4_; have BK303 := n5_; have HB := n6_; clear n0_ n1_ n2_ n3_ n4_ n5_ n6_ hb ho14
          refine hK.out _ _ trivial (fun hHeld => ?_)
          clear hK K
          refine norm_ (a' := ?_) ?_ ?_
          rotate_left
          ·show Act.put _ (some 1) _ = _
           simp only [putW]; rfl
          exact norm_ (by first | (simp only [putAll, Act.put, List.setIfInBounds_toArray, List.set_cons_zero, List.set_cons_succ]; done) | (simp only [putAll, Act.put, List.setIfInBounds_toArray, List.set_cons_zero, List.set_cons_succ]; rfl)) (hJ0_1_2_3_4 (v305, v308, v316, v326, v336) _ ⟨(by (with_reducible repeat (first | apply Kd.R_alloc | apply Kd.R_drewN | apply Kd.R_drew)); exact Kd.R_mono HO306.out (fun _ hk => hk.1)), (byR HO309.out), (byR HO317.out), (byR HO327.out), (byR HO337.out), (byK BK303.out), (byB1 HB.out GE303.out)⟩)
         ·skip
          try (obtain ⟨Ao13, co13, eo13⟩ := Kd.R_slice HO317.out; subst eo13)
          try (obtain ⟨Ao14, co14, eo14⟩ := Kd.R_slice HO327.out; subst eo14)
          try (obtain ⟨Ao15, co15, eo15⟩ := Kd.R_slice HO337.out; subst eo15)
          refine Kd.N_lit_step k58 _ 58 ?hg (N' := 6) ?hd (xs := ([(⟨t310, t311, t312, t313, t314, (⟨t315, t318, t319⟩ : S56)⟩ : S58), (⟨t320, t321, t322, t323, t324, (⟨t325, t328, t329⟩ : S56)⟩ : S58), (⟨t330, t331, t332, t333, t334, (⟨t335, t338, t339⟩ : S56)⟩ : S58)] : List (S58))) (inner := [.int .i64 t310, .int .i64 t311, .int .i64 t312, .int .i64 t313, .int .i64 t314, .slice Ao13 t315.length co13, .int .i64 t318, .int .i64 t319, .int .i64 t320, .int .i64 t321, .int .i64 t322, .int .i64 t323, .int .i64 t324, .slice Ao14 t325.length co14, .int .i64 t328, .int .i64 t329, .int .i64 t330, .int .i64 t331, .int .i64 t332, .int .i64 t333, .int .i64 t334, .slice Ao15 t335.length co15, .int .i64 t338, .int .i64 t339]) (ok := (fun k_ => (w.heap.size ≤ k_) ∧ some k_ ≠ (v308 : Value).ownBlock ∧ k_ ≠ gb303)) (okp := (fun k_ => (w.heap.size ≤ k_) ∧ some k_ ≠ (v308 : Value).ownBlock ∧ k_ ≠ gb303)) ?hr ?hp (fun _ hk => hk) ((show ∀ k_, w12.heap.size ≤ k_ → (fun k_ => (w.heap.size ≤ k_) ∧ some k_ ≠ (v308 : Value).ownBlock ∧ k_ ≠ gb303) k_ from fun k_ hk => ⟨(Nat.le_trans (below_size (byB1 HB.out GE303.out)) hk), Kd.fresh' (Kd.R_lt (byR HO309.out)) k_ hk, Kd.freshB (g := gb303) (o := .cells #[.slice none 0 0, .slice none 0 0, .slice none 0 0] 37 (0, 0)) (byK BK303.out) k_ hk⟩) _ (Nat.le_refl _)) (Below.refl _ _) (Nat.le_refl _) (by simp) ?_; (case hd => rfl); (case hg => rfl); (case hr => first | (go_simp; done) | (go_simp; rfl)); (case hp => exact (Reps.c8 (show Kd.FK k58 _ _ (⟨t310, t311, t312, t313, t314, (⟨t315, t318, t319⟩ : S56)⟩ : S58) [.int .i64 t310, .int .i64 t311, .int .i64 t312, .int .i64 t313, .int .i64 t314, .slice Ao13 t315.length co13, .int .i64 t318, .int .i64 t319] from (k58_mkF _ _ (⟨t310, t311, t312, t313, t314, (⟨t315, t318, t319⟩ : S56)⟩ : S58) (Kd.R_reads' (Kd.R_mono (ok' := (fun k_ => (w.heap.size ≤ k_) ∧ some k_ ≠ (v308 : Value).ownBlock ∧ k_ ≠ gb303)) (Kd.R_types (Kd.R_apart' (HO317.out) (Kd.R_typed HO309.out) (by decide)) BK303.out (by decide)) (fun k_ hk => ⟨hk.1.1.1, ⟨hk.1.2, hk.2⟩⟩))).2.1 (Kd.R_F (Kd.R_mono (ok' := (fun k_ => (w.heap.size ≤ k_) ∧ some k_ ≠ (v308 : Value).ownBlock ∧ k_ ≠ gb303)) (Kd.R_types (Kd.R_apart' (HO317.out) (Kd.R_typed HO309.out) (by decide)) BK303.out (by decide)) (fun k_ hk => ⟨hk.1.1.1, ⟨hk.1.2, hk.2⟩⟩))))) (Reps.c8 (show Kd.FK k58 _ _ (⟨t320, t321, t322, t323, t324, (⟨t325, t328, t329⟩ : S56)⟩ : S58) [.int .i64 t320, .int .i64 t321, .int .i64 t322, .int .i64 t323, .int .i64 t324, .slice Ao14 t325.length co14, .int .i64 t328, .int .i64 t329] from (k58_mkF _ _ (⟨t320, t321, t322, t323, t324, (⟨t325, t328, t329⟩ : S56)⟩ : S58) (Kd.R_reads' (Kd.R_mono (ok' := (fun k_ => (w.heap.size ≤ k_) ∧ some k_ ≠ (v308 : Value).ownBlock ∧ k_ ≠ gb303)) (Kd.R_types (Kd.R_apart' (HO327.out) (Kd.R_typed HO309.out) (by decide)) BK303.out (by decide)) (fun k_ hk => ⟨hk.1.1.1, ⟨hk.1.2, hk.2⟩⟩))).2.1 (Kd.R_F (Kd.R_mono (ok' := (fun k_ => (w.heap.size ≤ k_) ∧ some k_ ≠ (v308 : Value).ownBlock ∧ k_ ≠ gb303)) (Kd.R_types (Kd.R_apart' (HO327.out) (Kd.R_typed HO309.out) (by decide)) BK303.out (by decide)) (fun k_ hk => ⟨hk.1.1.1, ⟨hk.1.2, hk.2⟩⟩))))) (Reps.c8 (show Kd.FK k58 _ _ (⟨t330, t331, t332, t333, t334, (⟨t335, t338, t339⟩ : S56)⟩ : S58) [.int .i64 t330, .int .i64 t331, .int .i64 t332, .int .i64 t333, .int .i64 t334, .slice Ao15 t335.length co15, .int .i64 t338, .int .i64 t339] from (k58_mkF _ _ (⟨t330, t331, t332, t333, t334, (⟨t335, t338, t339⟩ : S56)⟩ : S58) (Kd.R_reads' (Kd.R_mono (ok' := (fun k_ => (w.heap.size ≤ k_) ∧ some k_ ≠ (v308 : Value).ownBlock ∧ k_ ≠ gb303)) (Kd.R_types (Kd.R_apart' (HO337.out) (Kd.R_typed HO309.out) (by decide)) BK303.out (by decide)) (fun k_ hk => ⟨hk.1.1.1, ⟨hk.1.2, hk.2⟩⟩))).2.1 (Kd.R_F (Kd.R_mono (ok' := (fun k_ => (w.heap.size ≤ k_) ∧ some k_ ≠ (v308 : Value).ownBlock ∧ k_ ≠ gb303)) (Kd.R_types (Kd.R_apart' (HO337.out) (Kd.R_typed HO309.out) (by decide)) BK303.out (by decide)) (fun k_ hk => ⟨hk.1.1.1, ⟨hk.1.2, hk.2⟩⟩))))) (Reps.none _ _)))))
          intro v341 w16 ho17 hb hg_ hnew_; clear hg_ hnew_
          (first | rw [← Ny340.out] at ho17 | (simp only [Int.reduceToNat] at ho17; rw [← Ny340.out] at ho17))
          have n0_ := Aside0.mk (Kd.R_below (byR HO309.out) hb); have n1_ := Aside0.mk (Kd.N_lower ho17 (below_size (byB1 HB.out GE303.out))); have n2_ := Aside0.mk (blk_below (g := gb303) (o := .cells #[.slice none 0 0, .slice none 0 0, .slice none 0 0] 37 (0, 0)) (byK BK303.out) hb); have n3_ := Aside0.mk (below_step (byB1 HB.out GE303.out) hb); clear HO309 BK303 HB HO317 HO327 HO337; have HO309 := n0_; have HO342 := n1_; have BK303 := n2_; have HB := n3_; clear n0_ n1_ n2_ n3_ hb ho17
          refine hK.out _ _ trivial (fun hHeld => ?_)
          clear hK K
          refine norm_ (a' := ?_) ?_ ?_
          rotate_left
          ·show Act.put _ (some 6) _ = _
           simp only [putW]; rfl
          exact norm_ (by first | (simp only [putAll, Act.put, List.setIfInBounds_toArray, List.set_cons_zero, List.set_cons_succ]; done) | (simp only [putAll, Act.put, List.setIfInBounds_toArray, List.set_cons_zero, List.set_cons_succ]; rfl)) (hJ1_2_3_4_5 (v308, .slice Ao13 t315.length co13, .slice Ao14 t325.length co14, .slice Ao15 t335.length co15, v341) _ ⟨(byR HO309.out), (byN HO342.out), (byK BK303.out), (byB1 HB.out GE303.out)⟩)
       ·skip
        rintro ⟨v305, v316, v326, v336⟩ w12 ⟨h0_, h1_, h2_, h3_, h4_, h5_⟩
        have n0_ : Aside0 (Kd.R (Kd.int .i64) 3 w12 w.heap.size (fun k_ => (w.heap.size ≤ k_)) v305 y304) := ⟨h0_⟩
        have n1_ : Aside0 (Kd.R k120 120 w12 w.heap.size (fun k_ => (w.heap.size ≤ k_) ∧ some k_ ≠ (v326 : Value).ownBlock ∧ some k_ ≠ (v336 : Value).ownBlock) v316 t315) := ⟨h1_⟩
        have n2_ : Aside0 (Kd.R k120 120 w12 w.heap.size (fun k_ => (w.heap.size ≤ k_) ∧ some k_ ≠ (v316 : Value).ownBlock ∧ some k_ ≠ (v336 : Value).ownBlock) v326 t325) := ⟨h2_⟩
        have n3_ : Aside0 (Kd.R k120 120 w12 w.heap.size (fun k_ => (w.heap.size ≤ k_) ∧ some k_ ≠ (v316 : Value).ownBlock ∧ some k_ ≠ (v326 : Value).ownBlock) v336 t335) := ⟨h3_⟩
        have n4_ : Aside0 (w12.heap[gb303]? = some (.cells #[.slice none 0 0, .slice none 0 0, .slice none 0 0] 37 (0, 0))) := ⟨h4_⟩
        have n5_ : Aside0 (Below w.heap.size w w12) := ⟨h5_⟩
        clear BK303 HB h0_ h1_ h2_ h3_ h4_ h5_; have HO306 := n0_; have HO317 := n1_; have HO327 := n2_; have HO337 := n3_; have BK303 := n4_; have HB := n5_; clear n0_ n1_ n2_ n3_ n4_ n5_; have hHeld := trivial
        refine norm_ (a' := ?_) ?_ ?_
        rotate_left
        ·simp only [putAll, Act.put, List.setIfInBounds_toArray, List.set_cons_zero, List.set_cons_succ]
         rfl
        refine two_ (i := 1) (j := 5) (Ni := some 2) (Nj := some 6) (bits 8 31) (bits 8 61) rfl rfl rfl rfl (two_of HT_.out (by kernel_rfl)) (by decide) (by decide) (fun K hK => ?_) (fun K hK => ?_)
        ·skip
         refine Kd.R_make_step k158 _ 158 (by rfl) (N := 2) rfl 34 _ _ rfl 4 rfl rfl Try.underlying34 (.agg #[(.int .i64 0), (.int .i64 0)]) 16 info158 rfl (by decide) (by omega) z158 (ok := fun _ => True) (okp := fun _ => True) (k158_mkM _ _ _ z158 ) (fun _ hk => hk) trivial (by omega) (by omega) (Below.refl _ _) (Nat.le_refl _) ?_
         intro v308 w13 ho14 hb hg_ hnew_; clear hg_ hnew_
         (first | rw [← Ny307.out] at ho14 | (simp only [Int.reduceToNat] at ho14; rw [← Ny307.out] at ho14))
         have n0_ := Aside0.mk (Kd.R_below (byR HO306.out) hb); have n1_ := Aside0.mk (Kd.R_below (byR HO317.out) hb); have n2_ := Aside0.mk (Kd.R_below (byR HO327.out) hb); have n3_ := Aside0.mk (Kd.R_below (byR HO337.out) hb); have n4_ := Aside0.mk (Kd.R_lower (Kd.R_newM (M := fun k_ => (w.heap.size ≤ k_)) ho14 (below_size (byB1 HB.out GE303.out)) (fun k_ h_ => h_)) (below_size (byB1 HB.out GE303.out))); have n5_ := Aside0.mk (blk_below (g := gb303) (o := .cells #[.slice none 0 0, .slice none 0 0, .slice none 0 0] 37 (0, 0)) (byK BK303.out) hb); have n6_ := Aside0.mk (below_step (byB1 HB.out GE303.out) hb); clear HO306 HO317 HO327 HO337 BK303 HB; have HO306 := n0_; have HO317 := n1_; have HO327 := n2_; have HO337 := n3_; have HO309 := n4_; have BK303 := n5_; have HB := n6_; clear n0_ n1_ n2_ n3_ n4_ n5_ n6_ hb ho14
         refine hK.out _ _ trivial (fun hHeld => ?_)
         clear hK K
         refine norm_ (a' := ?_) ?_ ?_
         rotate_left
         ·show Act.put _ (some 2) _ = _
          simp only [putW]; rfl
         exact norm_ (by first | (simp only [putAll, Act.put, List.setIfInBounds_toArray, List.set_cons_zero, List.set_cons_succ]; done) | (simp only [putAll, Act.put, List.setIfInBounds_toArray, List.set_cons_zero, List.set_cons_succ]; rfl)) (hJ0_1_2_3_4 (v305, v308, v316, v326, v336) _ ⟨(byR HO306.out), (by (with_reducible repeat (first | apply Kd.R_alloc | apply Kd.R_drewN | apply Kd.R_drew)); exact Kd.R_mono HO309.out (fun _ hk => hk.1)), (byR HO317.out), (byR HO327.out), (byR HO337.out), (byK BK303.out), (byB1 HB.out GE303.out)⟩)
        ·skip
         try (obtain ⟨Ao13, co13, eo13⟩ := Kd.R_slice HO317.out; subst eo13)
         try (obtain ⟨Ao14, co14, eo14⟩ := Kd.R_slice HO327.out; subst eo14)
         try (obtain ⟨Ao15, co15, eo15⟩ := Kd.R_slice HO337.out; subst eo15)
         refine Kd.N_lit_step k58 _ 58 ?hg (N' := 6) ?hd (xs := ([(⟨t310, t311, t312, t313, t314, (⟨t315, t318, t319⟩ : S56)⟩ : S58), (⟨t320, t321, t322, t323, t324, (⟨t325, t328, t329⟩ : S56)⟩ : S58), (⟨t330, t331, t332, t333, t334, (⟨t335, t338, t339⟩ : S56)⟩ : S58)] : List (S58))) (inner := [.int .i64 t310, .int .i64 t311, .int .i64 t312, .int .i64 t313, .int .i64 t314, .slice Ao13 t315.length co13, .int .i64 t318, .int .i64 t319, .int .i64 t320, .int .i64 t321, .int .i64 t322, .int .i64 t323, .int .i64 t324, .slice Ao14 t325.length co14, .int .i64 t328, .int .i64 t329, .int .i64 t330, .int .i64 t331, .int .i64 t332, .int .i64 t333, .int .i64 t334, .slice Ao15 t335.length co15, .int .i64 t338, .int .i64 t339]) (ok := (fun k_ => (w.heap.size ≤ k_) ∧ some k_ ≠ (v305 : Value).ownBlock ∧ k_ ≠ gb303)) (okp := (fun k_ => (w.heap.size ≤ k_) ∧ some k_ ≠ (v305 : Value).ownBlock ∧ k_ ≠ gb303)) ?hr ?hp (fun _ hk => hk) ((show ∀ k_, w12.heap.size ≤ k_ → (fun k_ => (w.heap.size ≤ k_) ∧ some k_ ≠ (v305 : Value).ownBlock ∧ k_ ≠ gb303) k_ from fun k_ hk => ⟨(Nat.le_trans (below_size (byB1 HB.out GE303.out)) hk), Kd.fresh' (Kd.R_lt (byR HO306.out)) k_ hk, Kd.freshB (g := gb303) (o := .cells #[.slice none 0 0, .slice none 0 0, .slice none 0 0] 37 (0, 0)) (byK BK303.out) k_ hk⟩) _ (Nat.le_refl _)) (Below.refl _ _) (Nat.le_refl _) (by simp) ?_; (case hd => rfl); (case hg => rfl); (case hr => first | (go_simp; done) | (go_simp; rfl)); (case hp => exact (Reps.c8 (show Kd.FK k58 _ _ (⟨t310, t311, t312, t313, t314, (⟨t315, t318, t319⟩ : S56)⟩ : S58) [.int .i64 t310, .int .i64 t311, .int .i64 t312, .int .i64 t313, .int .i64 t314, .slice Ao13 t315.length co13, .int .i64 t318, .int .i64 t319] from (k58_mkF _ _ (⟨t310, t311, t312, t313, t314, (⟨t315, t318, t319⟩ : S56)⟩ : S58) (Kd.R_reads' (Kd.R_mono (ok' := (fun k_ => (w.heap.size ≤ k_) ∧ some k_ ≠ (v305 : Value).ownBlock ∧ k_ ≠ gb303)) (Kd.R_types (Kd.R_apart' (HO317.out) (Kd.R_typed HO306.out) (by decide)) BK303.out (by decide)) (fun k_ hk => ⟨hk.1.1.1, ⟨hk.1.2, hk.2⟩⟩))).2.1 (Kd.R_F (Kd.R_mono (ok' := (fun k_ => (w.heap.size ≤ k_) ∧ some k_ ≠ (v305 : Value).ownBlock ∧ k_ ≠ gb303)) (Kd.R_types (Kd.R_apart' (HO317.out) (Kd.R_typed HO306.out) (by decide)) BK303.out (by decide)) (fun k_ hk => ⟨hk.1.1.1, ⟨hk.1.2, hk.2⟩⟩))))) (Reps.c8 (show Kd.FK k58 _ _ (⟨t320, t321, t322, t323, t324, (⟨t325, t328, t329⟩ : S56)⟩ : S58) [.int .i64 t320, .int .i64 t321, .int .i64 t322, .int .i64 t323, .int .i64 t324, .slice Ao14 t325.length co14, .int .i64 t328, .int .i64 t329] from (k58_mkF _ _ (⟨t320, t321, t322, t323, t324, (⟨t325, t328, t329⟩ : S56)⟩ : S58) (Kd.R_reads' (Kd.R_mono (ok' := (fun k_ => (w.heap.size ≤ k_) ∧ some k_ ≠ (v305 : Value).ownBlock ∧ k_ ≠ gb303)) (Kd.R_types (Kd.R_apart' (HO327.out) (Kd.R_typed HO306.out) (by decide)) BK303.out (by decide)) (fun k_ hk => ⟨hk.1.1.1, ⟨hk.1.2, hk.2⟩⟩))).2.1 (Kd.R_F (Kd.R_mono (ok' := (fun k_ => (w.heap.size ≤ k_) ∧ some k_ ≠ (v305 : Value).ownBlock ∧ k_ ≠ gb303)) (Kd.R_types (Kd.R_apart' (HO327.out) (Kd.R_typed HO306.out) (by decide)) BK303.out (by decide)) (fun k_ hk => ⟨hk.1.1.1, ⟨hk.1.2, hk.2⟩⟩))))) (Reps.c8 (show Kd.FK k58 _ _ (⟨t330, t331, t332, t333, t334, (⟨t335, t338, t339⟩ : S56)⟩ : S58) [.int .i64 t330, .int .i64 t331, .int .i64 t332, .int .i64 t333, .int .i64 t334, .slice Ao15 t335.length co15, .int .i64 t338, .int .i64 t339] from (k58_mkF _ _ (⟨t330, t331, t332, t333, t334, (⟨t335, t338, t339⟩ : S56)⟩ : S58) (Kd.R_reads' (Kd.R_mono (ok' := (fun k_ => (w.heap.size ≤ k_) ∧ some k_ ≠ (v305 : Value).ownBlock ∧ k_ ≠ gb303)) (Kd.R_types (Kd.R_apart' (HO337.out) (Kd.R_typed HO306.out) (by decide)) BK303.out (by decide)) (fun k_ hk => ⟨hk.1.1.1, ⟨hk.1.2, hk.2⟩⟩))).2.1 (Kd.R_F (Kd.R_mono (ok' := (fun k_ => (w.heap.size ≤ k_) ∧ some k_ ≠ (v305 : Value).ownBlock ∧ k_ ≠ gb303)) (Kd.R_types (Kd.R_apart' (HO337.out) (Kd.R_typed HO306.out) (by decide)) BK303.out (by decide)) (fun k_ hk => ⟨hk.1.1.1, ⟨hk.1.2, hk.2⟩⟩))))) (Reps.none _ _)))))
         intro v341 w16 ho17 hb hg_ hnew_; clear hg_ hnew_
         (first | rw [← Ny340.out] at ho17 | (simp only [Int.reduceToNat] at ho17; rw [← Ny340.out] at ho17))
         have n0_ := Aside0.mk (Kd.R_below (byR HO306.out) hb); have n1_ := Aside0.mk (Kd.N_lower ho17 (below_size (byB1 HB.out GE303.out))); have n2_ := Aside0.mk (blk_below (g := gb303) (o := .cells #[.slice none 0 0, .slice none 0 0, .slice none 0 0] 37 (0, 0)) (byK BK303.out) hb); have n3_ := Aside0.mk (below_step (byB1 HB.out GE303.out) hb); clear HO306 BK303 HB HO317 HO327 HO337; have HO306 := n0_; have HO342 := n1_; have BK303 := n2_; have HB := n3_; clear n0_ n1_ n2_ n3_ hb ho17
         refine hK.out _ _ trivial (fun hHeld => ?_)
         clear hK K
         refine norm_ (a' := ?_) ?_ ?_
         rotate_left
         ·show Act.put _ (some 6) _ = _
          simp only [putW]; rfl
         exact norm_ (by first | (simp only [putAll, Act.put, List.setIfInBounds_toArray, List.set_cons_zero, List.set_cons_succ]; done) | (simp only [putAll, Act.put, List.setIfInBounds_toArray, List.set_cons_zero, List.set_cons_succ]; rfl)) (hJ0_2_3_4_5 (v305, .slice Ao13 t315.length co13, .slice Ao14 t325.length co14, .slice Ao15 t335.length co15, v341) _ ⟨(byR HO306.out), (byN HO342.out), (byK BK303.out), (byB1 HB.out GE303.out)⟩)
      ·skip
       rintro ⟨v305, v308, v316, v326⟩ w13 ⟨h0_, h1_, h2_, h3_, h4_, h5_⟩
       have n0_ : Aside0 (Kd.R (Kd.int .i64) 3 w13 w.heap.size (fun k_ => (w.heap.size ≤ k_)) v305 y304) := ⟨h0_⟩
       have n1_ : Aside0 (Kd.R k158 158 w13 w.heap.size (fun k_ => (w.heap.size ≤ k_)) v308 y307) := ⟨h1_⟩
       have n2_ : Aside0 (Kd.R k120 120 w13 w.heap.size (fun k_ => (w.heap.size ≤ k_) ∧ some k_ ≠ (v326 : Value).ownBlock) v316 t315) := ⟨h2_⟩
       have n3_ : Aside0 (Kd.R k120 120 w13 w.heap.size (fun k_ => (w.heap.size ≤ k_) ∧ some k_ ≠ (v316 : Value).ownBlock) v326 t325) := ⟨h3_⟩
       have n4_ : Aside0 (w13.heap[gb303]? = some (.cells #[.slice none 0 0, .slice none 0 0, .slice none 0 0] 37 (0, 0))) := ⟨h4_⟩
       have n5_ : Aside0 (Below w.heap.size w w13) := ⟨h5_⟩
       clear BK303 HB h0_ h1_ h2_ h3_ h4_ h5_; have HO306 := n0_; have HO309 := n1_; have HO317 := n2_; have HO327 := n3_; have BK303 := n4_; have HB := n5_; clear n0_ n1_ n2_ n3_ n4_ n5_; have hHeld := trivial
       refine norm_ (a' := ?_) ?_ ?_
       rotate_left
       ·simp only [putAll, Act.put, List.setIfInBounds_toArray, List.set_cons_zero, List.set_cons_succ]
        rfl
       refine one_ (i := 4) (N := some 5) (bits 8 31) rfl rfl (one_of HT_.out (by kernel_rfl)) (by decide) (fun K hK => ?_)
       refine goes_ Try.func46 (by kernel_rfl) rfl #[.int .i64 1, .int .i64 3, .int .i64 4] (by rfl) rfl rfl byL ?_
       with_reducible refine (mapmakerlaw47_piece.calls 1 3 4 t330 t331 t332 t333 t334 t335 t338 t339 _ A4.out).mono ?_
       rintro e w14 ⟨v336, rfl, ho0, hb⟩
       refine ⟨_, rfl, ?_⟩
       have n0_ := Aside0.mk (Kd.R_below (byR HO306.out) hb); have n1_ := Aside0.mk (Kd.R_below (byR HO309.out) hb); have n2_ := Aside0.mk (Kd.R_elder' (byR HO317.out) (Kd.R_base ho0) hb); have n3_ := Aside0.mk (Kd.R_elder' (byR HO327.out) (Kd.R_base ho0) hb); have n4_ := Aside0.mk (Kd.R_lower (Kd.R_new' (Kd.R_new' (Kd.R_newM (M := fun k_ => (w.heap.size ≤ k_)) ho0 (below_size (byB1 HB.out GE303.out)) (fun k_ h_ => h_)) (Kd.R_lt (byR HO317.out))) (Kd.R_lt (byR HO327.out))) (below_size (byB1 HB.out GE303.out))); have n5_ := Aside0.mk (blk_below (g := gb303) (o := .cells #[.slice none 0 0, .slice none 0 0, .slice none 0 0] 37 (0, 0)) (byK BK303.out) hb); have n6_ := Aside0.mk (below_step (byB1 HB.out GE303.out) hb); clear HO306 HO309 HO317 HO327 BK303 HB; have HO306 := n0_; have HO309 := n1_; have HO317 := n2_; have HO327 := n3_; have HO337 := n4_; have BK303 := n5_; have HB := n6_; clear n0_ n1_ n2_ n3_ n4_ n5_ n6_
       (try clear hb)
       (try clear hb2)
       (try clear hk)
       (try clear hi)
       (try clear ho0)
       refine hK.out _ _ trivial (fun hHeld => ?_)
       clear hK K
       refine norm_ (a' := ?_) ?_ ?_
       rotate_left
       ·show Act.put _ (some 5) _ = _
        simp only [putW]; rfl
       exact norm_ (by first | (simp only [putAll, Act.put, List.setIfInBounds_toArray, List.set_cons_zero, List.set_cons_succ]; done) | (simp only [putAll, Act.put, List.setIfInBounds_toArray, List.set_cons_zero, List.set_cons_succ]; rfl)) (hJ0_1_2_3_4 (v305, v308, v316, v326, v336) _ ⟨(byR HO306.out), (byR HO309.out), (by (with_reducible repeat (first | apply Kd.R_alloc | apply Kd.R_drewN | apply Kd.R_drew)); exact Kd.R_mono HO317.out (fun _ hk => ⟨hk.1.1, ⟨hk.1.2, hk.2⟩⟩)), (by (with_reducible repeat (first | apply Kd.R_alloc | apply Kd.R_drewN | apply Kd.R_drew)); exact Kd.R_mono HO327.out (fun _ hk => ⟨hk.1.1, ⟨hk.1.2, hk.2⟩⟩)), (by (with_reducible repeat (first | apply Kd.R_alloc | apply Kd.R_drewN | apply Kd.R_drew)); exact Kd.R_mono HO337.out (fun _ hk => ⟨hk.1.1.1, ⟨hk.1.2, hk.2⟩⟩)), (byK BK303.out), (byB1 HB.out GE303.out)⟩)
     ·skip
      rintro ⟨v308, v316, v326, v336, v341⟩ w17 ⟨h0_, h1_, h2_, h3_⟩
      have n0_ : Aside0 (Kd.R k158 158 w17 w.heap.size (fun k_ => (w.heap.size ≤ k_)) v308 y307) := ⟨h0_⟩
      have n1_ : Aside0 (Kd.N k58 58 w17 w.heap.size (fun k_ => (w.heap.size ≤ k_) ∧ some k_ ≠ (v308 : Value).ownBlock ∧ k_ ≠ gb303) v341 y340) := ⟨h1_⟩
      have n2_ : Aside0 (w17.heap[gb303]? = some (.cells #[.slice none 0 0, .slice none 0 0, .slice none 0 0] 37 (0, 0))) := ⟨h2_⟩
      have n3_ : Aside0 (Below w.heap.size w w17) := ⟨h3_⟩
      clear BK303 HB h0_ h1_ h2_ h3_; have HO309 := n0_; have HO342 := n1_; have BK303 := n2_; have HB := n3_; clear n0_ n1_ n2_ n3_; have hHeld := trivial
      refine norm_ (a' := ?_) ?_ ?_
      rotate_left
      ·simp only [putAll, Act.put, List.setIfInBounds_toArray, List.set_cons_zero, List.set_cons_succ]
       rfl
      refine one_ (i := 0) (N := some 1) (bits 8 63) rfl rfl (one_of HT_.out (by kernel_rfl)) (by decide) (fun K hK => ?_)
      refine Kd.R_lit_step (Kd.int .i64) _ 3 ?hg (N := 1) ?hd (xs := ([1, 2, 3, 4] : List Int)) (inner := [.int .i64 1, .int .i64 2, .int .i64 3, .int .i64 4]) (ok := fun _ => True) (okp := fun _ => True) ?hr ?hp (fun _ hk => hk) trivial (Below.refl _ _) (Nat.le_refl _) (by simp) ?_; (case hd => rfl); (case hg => rfl); (case hr => first | (go_simp; done) | (go_simp; rfl)); (case hp => exact (Reps.one (show Kd.M (Kd.int .i64) _ _ _ 1 [.int .i64 1] from rfl) (Reps.one (show Kd.M (Kd.int .i64) _ _ _ 2 [.int .i64 2] from rfl) (Reps.one (show Kd.M (Kd.int .i64) _ _ _ 3 [.int .i64 3] from rfl) (Reps.one (show Kd.M (Kd.int .i64) _ _ _ 4 [.int .i64 4] from rfl) (Reps.none _ _))))))
      intro v305 w18 ho19 hb hg_ hnew_; clear hg_ hnew_
      (first | rw [← Ny304.out] at ho19 | (simp only [Int.reduceToNat] at ho19; rw [← Ny304.out] at ho19))
      have n0_ := Aside0.mk (Kd.R_below (byR HO309.out) hb); have n1_ := Aside0.mk (Kd.N_elder' (byN HO342.out) (Kd.R_base ho19) hb); have n2_ := Aside0.mk (Kd.R_lower (Kd.R_newM (M := fun k_ => (w.heap.size ≤ k_)) ho19 (below_size (byB1 HB.out GE303.out)) (fun k_ h_ => h_)) (below_size (byB1 HB.out GE303.out))); have n3_ := Aside0.mk (blk_below (g := gb303) (o := .cells #[.slice none 0 0, .slice none 0 0, .slice none 0 0] 37 (0, 0)) (byK BK303.out) hb); have n4_ := Aside0.mk (below_step (byB1 HB.out GE303.out) hb); clear HO309 HO342 BK303 HB; have HO309 := n0_; have HO342 := n1_; have HO306 := n2_; have BK303 := n3_; have HB := n4_; clear n0_ n1_ n2_ n3_ n4_ hb ho19
      obtain ⟨Ao20, co20, eo20⟩ := Kd.N_slice HO342.out
      (first | subst eo20 | (injection eo20 with f1_ f2_ f3_; have f4_ := f1_.symm; have f5_ := f3_.symm; clear f1_ f2_ f3_; subst f4_; subst f5_))
      obtain ⟨Ao21, co21, eo21⟩ := Kd.R_slice HO309.out
      (first | subst eo21 | (injection eo21 with f1_ f2_ f3_; have f4_ := f1_.symm; have f5_ := f3_.symm; clear f1_ f2_ f3_; subst f4_; subst f5_))
      obtain ⟨Ao22, co22, eo22⟩ := Kd.R_slice HO306.out
      (first | subst eo22 | (injection eo22 with f1_ f2_ f3_; have f4_ := f1_.symm; have f5_ := f3_.symm; clear f1_ f2_ f3_; subst f4_; subst f5_))
      refine hK.out _ _ trivial (fun hHeld => ?_)
      clear hK K
      refine norm_ (a' := ?_) ?_ ?_
      rotate_left
      ·show Act.put _ (some 1) _ = _
       simp only [putW]; rfl
      exact norm_ (by first | (simp only [putAll, Act.put, List.setIfInBounds_toArray, List.set_cons_zero, List.set_cons_succ]; done) | (simp only [putAll, Act.put, List.setIfInBounds_toArray, List.set_cons_zero, List.set_cons_succ]; rfl)) (hJ0_1_2_3_4_5 (.slice Ao22 y304.length co22, .slice Ao21 y307.length co21, v316, v326, v336, .slice Ao20 y340.length co20) _ ⟨(by (with_reducible repeat (first | apply Kd.R_alloc | apply Kd.R_drewN | apply Kd.R_drew)); exact Kd.R_mono HO306.out (fun _ hk => hk.1)), (byR HO309.out), (by (with_reducible repeat (first | apply Kd.N_alloc | apply Kd.N_drewN | apply Kd.N_drew)); exact Kd.N_mono HO342.out (fun _ hk => ⟨hk.1.1, ⟨hk.2, ⟨hk.1.2.1, hk.1.2.2⟩⟩⟩)), (byK BK303.out), (byB1 HB.out GE303.out)⟩)
    ·skip
     rintro ⟨v305, v316, v326, v336, v341⟩ w17 ⟨h0_, h1_, h2_, h3_⟩
     have n0_ : Aside0 (Kd.R (Kd.int .i64) 3 w17 w.heap.size (fun k_ => (w.heap.size ≤ k_)) v305 y304) := ⟨h0_⟩
     have n1_ : Aside0 (Kd.N k58 58 w17 w.heap.size (fun k_ => (w.heap.size ≤ k_) ∧ some k_ ≠ (v305 : Value).ownBlock ∧ k_ ≠ gb303) v341 y340) := ⟨h1_⟩
     have n2_ : Aside0 (w17.heap[gb303]? = some (.cells #[.slice none 0 0, .slice none 0 0, .slice none 0 0] 37 (0, 0))) := ⟨h2_⟩
     have n3_ : Aside0 (Below w.heap.size w w17) := ⟨h3_⟩
     clear BK303 HB h0_ h1_ h2_ h3_; have HO306 := n0_; have HO342 := n1_; have BK303 := n2_; have HB := n3_; clear n0_ n1_ n2_ n3_; have hHeld := trivial
     refine norm_ (a' := ?_) ?_ ?_
     rotate_left
     ·simp only [putAll, Act.put, List.setIfInBounds_toArray, List.set_cons_zero, List.set_cons_succ]
      rfl
     refine one_ (i := 1) (N := some 2) (bits 8 63) rfl rfl (one_of HT_.out (by kernel_rfl)) (by decide) (fun K hK => ?_)
     refine Kd.R_make_step k158 _ 158 (by rfl) (N := 2) rfl 34 _ _ rfl 4 rfl rfl Try.underlying34 (.agg #[(.int .i64 0), (.int .i64 0)]) 16 info158 rfl (by decide) (by omega) z158 (ok := fun _ => True) (okp := fun _ => True) (k158_mkM _ _ _ z158 ) (fun _ hk => hk) trivial (by omega) (by omega) (Below.refl _ _) (Nat.le_refl _) ?_
     intro v308 w18 ho19 hb hg_ hnew_; clear hg_ hnew_
     (first | rw [← Ny307.out] at ho19 | (simp only [Int.reduceToNat] at ho19; rw [← Ny307.out] at ho19))
     have n0_ := Aside0.mk (Kd.R_below (byR HO306.out) hb); have n1_ := Aside0.mk (Kd.N_elder' (byN HO342.out) (Kd.R_base ho19) hb); have n2_ := Aside0.mk (Kd.R_lower (Kd.R_newM (M := fun k_ => (w.heap.size ≤ k_)) ho19 (below_size (byB1 HB.out GE303.out)) (fun k_ h_ => h_)) (below_size (byB1 HB.out GE303.out))); have n3_ := Aside0.mk (blk_below (g := gb303) (o := .cells #[.slice none 0 0, .slice none 0 0, .slice none 0 0] 37 (0, 0)) (byK BK303.out) hb); have n4_ := Aside0.mk (below_step (byB1 HB.out GE303.out) hb); clear HO306 HO342 BK303 HB; have HO306 := n0_; have HO342 := n1_; have HO309 := n2_; have BK303 := n3_; have HB := n4_; clear n0_ n1_ n2_ n3_ n4_ hb ho19
     obtain ⟨Ao20, co20, eo20⟩ := Kd.N_slice HO342.out
     (first | subst eo20 | (injection eo20 with f1_ f2_ f3_; have f4_ := f1_.symm; have f5_ := f3_.symm; clear f1_ f2_ f3_; subst f4_; subst f5_))
     obtain ⟨Ao21, co21, eo21⟩ := Kd.R_slice HO309.out
     (first | subst eo21 | (injection eo21 with f1_ f2_ f3_; have f4_ := f1_.symm; have f5_ := f3_.symm; clear f1_ f2_ f3_; subst f4_; subst f5_))
     obtain ⟨Ao22, co22, eo22⟩ := Kd.R_slice HO306.out
     (first | subst eo22 | (injection eo22 with f1_ f2_ f3_; have f4_ := f1_.symm; have f5_ := f3_.symm; clear f1_ f2_ f3_; subst f4_; subst f5_))
     refine hK.out _ _ trivial (fun hHeld => ?_)
     clear hK K
     refine norm_ (a' := ?_) ?_ ?_
     rotate_left
     ·show Act.put _ (some 2) _ = _
      simp only [putW]; rfl
     exact norm_ (by first | (simp only [putAll, Act.put, List.setIfInBounds_toArray, List.set_cons_zero, List.set_cons_succ]; done) | (simp only [putAll, Act.put, List.setIfInBounds_toArray, List.set_cons_zero, List.set_cons_succ]; rfl)) (hJ0_1_2_3_4_5 (.slice Ao22 y304.length co22, .slice Ao21 y307.length co21, v316, v326, v336, .slice Ao20 y340.length co20) _ ⟨(byR HO306.out), (by (with_reducible repeat (first | apply Kd.R_alloc | apply Kd.R_drewN | apply Kd.R_drew)); exact Kd.R_mono HO309.out (fun _ hk => hk.1)), (by (with_reducible repeat (first | apply Kd.N_alloc | apply Kd.N_drewN | apply Kd.N_drew)); exact Kd.N_mono HO342.out (fun _ hk => ⟨hk.1.1, ⟨hk.1.2.1, ⟨hk.2, hk.1.2.2⟩⟩⟩)), (byK BK303.out), (byB1 HB.out GE303.out)⟩)
   ·skip
    rintro ⟨v305, v308, v316, v326, v336⟩ w14 ⟨h0_, h1_, h2_, h3_, h4_, h5_, h6_⟩
    have n0_ : Aside0 (Kd.R (Kd.int .i64) 3 w14 w.heap.size (fun k_ => (w.heap.size ≤ k_)) v305 y304) := ⟨h0_⟩
    have n1_ : Aside0 (Kd.R k158 158 w14 w.heap.size (fun k_ => (w.heap.size ≤ k_)) v308 y307) := ⟨h1_⟩
    have n2_ : Aside0 (Kd.R k120 120 w14 w.heap.size (fun k_ => (w.heap.size ≤ k_) ∧ some k_ ≠ (v326 : Value).ownBlock ∧ some k_ ≠ (v336 : Value).ownBlock) v316 t315) := ⟨h2_⟩
    have n3_ : Aside0 (Kd.R k120 120 w14 w.heap.size (fun k_ => (w.heap.size ≤ k_) ∧ some k_ ≠ (v316 : Value).ownBlock ∧ some k_ ≠ (v336 : Value).ownBlock) v326 t325) := ⟨h3_⟩
    have n4_ : Aside0 (Kd.R k120 120 w14 w.heap.size (fun k_ => (w.heap.size ≤ k_) ∧ some k_ ≠ (v316 : Value).ownBlock ∧ some k_ ≠ (v326 : Value).ownBlock) v336 t335) := ⟨h4_⟩
    have n5_ : Aside0 (w14.heap[gb303]? = some (.cells #[.slice none 0 0, .slice none 0 0, .slice none 0 0] 37 (0, 0))) := ⟨h5_⟩
    have n6_ : Aside0 (Below w.heap.size w w14) := ⟨h6_⟩
    clear BK303 HB h0_ h1_ h2_ h3_ h4_ h5_ h6_; have HO306 := n0_; have HO309 := n1_; have HO317 := n2_; have HO327 := n3_; have HO337 := n4_; have BK303 := n5_; have HB := n6_; clear n0_ n1_ n2_ n3_ n4_ n5_ n6_; have hHeld := trivial
    obtain ⟨Ao15, co15, eo15⟩ := Kd.R_slice HO317.out
    (first | subst eo15 | (injection eo15 with f1_ f2_ f3_; have f4_ := f1_.symm; have f5_ := f3_.symm; clear f1_ f2_ f3_; subst f4_; subst f5_))
    obtain ⟨Ao16, co16, eo16⟩ := Kd.R_slice HO327.out
    (first | subst eo16 | (injection eo16 with f1_ f2_ f3_; have f4_ := f1_.symm; have f5_ := f3_.symm; clear f1_ f2_ f3_; subst f4_; subst f5_))
    obtain ⟨Ao17, co17, eo17⟩ := Kd.R_slice HO337.out
    (first | subst eo17 | (injection eo17 with f1_ f2_ f3_; have f4_ := f1_.symm; have f5_ := f3_.symm; clear f1_ f2_ f3_; subst f4_; subst f5_))
    refine norm_ (a' := ?_) ?_ ?_
    rotate_left
    ·simp only [putAll, Act.put, List.setIfInBounds_toArray, List.set_cons_zero, List.set_cons_succ]
     rfl
    refine one_ (i := 5) (N := some 6) (bits 8 63) rfl rfl (one_of HT_.out (by kernel_rfl)) (by decide) (fun K hK => ?_)
    try (obtain ⟨Ao15, co15, eo15⟩ := Kd.R_slice HO317.out; subst eo15)
    try (obtain ⟨Ao16, co16, eo16⟩ := Kd.R_slice HO327.out; subst eo16)
    try (obtain ⟨Ao17, co17, eo17⟩ := Kd.R_slice HO337.out; subst eo17)
    refine Kd.N_lit_step k58 _ 58 ?hg (N' := 6) ?hd (xs := ([(⟨t310, t311, t312, t313, t314, (⟨t315, t318, t319⟩ : S56)⟩ : S58), (⟨t320, t321, t322, t323, t324, (⟨t325, t328, t329⟩ : S56)⟩ : S58), (⟨t330, t331, t332, t333, t334, (⟨t335, t338, t339⟩ : S56)⟩ : S58)] : List (S58))) (inner := [.int .i64 t310, .int .i64 t311, .int .i64 t312, .int .i64 t313, .int .i64 t314, .slice Ao15 t315.length co15, .int .i64 t318, .int .i64 t319, .int .i64 t320, .int .i64 t321, .int .i64 t322, .int .i64 t323, .int .i64 t324, .slice Ao16 t325.length co16, .int .i64 t328, .int .i64 t329, .int .i64 t330, .int .i64 t331, .int .i64 t332, .int .i64 t333, .int .i64 t334, .slice Ao17 t335.length co17, .int .i64 t338, .int .i64 t339]) (ok := (fun k_ => (w.heap.size ≤ k_) ∧ some k_ ≠ (v305 : Value).ownBlock ∧ some k_ ≠ (v308 : Value).ownBlock ∧ k_ ≠ gb303)) (okp := (fun k_ => (w.heap.size ≤ k_) ∧ some k_ ≠ (v305 : Value).ownBlock ∧ some k_ ≠ (v308 : Value).ownBlock ∧ k_ ≠ gb303)) ?hr ?hp (fun _ hk => hk) ((show ∀ k_, w14.heap.size ≤ k_ → (fun k_ => (w.heap.size ≤ k_) ∧ some k_ ≠ (v305 : Value).ownBlock ∧ some k_ ≠ (v308 : Value).ownBlock ∧ k_ ≠ gb303) k_ from fun k_ hk => ⟨(Nat.le_trans (below_size (byB1 HB.out GE303.out)) hk), Kd.fresh' (Kd.R_lt (byR HO306.out)) k_ hk, Kd.fresh' (Kd.R_lt (byR HO309.out)) k_ hk, Kd.freshB (g := gb303) (o := .cells #[.slice none 0 0, .slice none 0 0, .slice none 0 0] 37 (0, 0)) (byK BK303.out) k_ hk⟩) _ (Nat.le_refl _)) (Below.refl _ _) (Nat.le_refl _) (by simp) ?_; (case hd => rfl); (case hg => rfl); (case hr => first | (go_simp; done) | (go_simp; rfl)); (case hp => exact (Reps.c8 (show Kd.FK k58 _ _ (⟨t310, t311, t312, t313, t314, (⟨t315, t318, t319⟩ : S56)⟩ : S58) [.int .i64 t310, .int .i64 t311, .int .i64 t312, .int .i64 t313, .int .i64 t314, .slice Ao15 t315.length co15, .int .i64 t318, .int .i64 t319] from (k58_mkF _ _ (⟨t310, t311, t312, t313, t314, (⟨t315, t318, t319⟩ : S56)⟩ : S58) (Kd.R_reads' (Kd.R_mono (ok' := (fun k_ => (w.heap.size ≤ k_) ∧ some k_ ≠ (v305 : Value).ownBlock ∧ some k_ ≠ (v308 : Value).ownBlock ∧ k_ ≠ gb303)) (Kd.R_types (Kd.R_apart' (Kd.R_apart' (HO317.out) (Kd.R_typed HO306.out) (by decide)) (Kd.R_typed HO309.out) (by decide)) BK303.out (by decide)) (fun k_ hk => ⟨hk.1.1.1.1, ⟨hk.1.1.2, ⟨hk.1.2, hk.2⟩⟩⟩))).2.1 (Kd.R_F (Kd.R_mono (ok' := (fun k_ => (w.heap.size ≤ k_) ∧ some k_ ≠ (v305 : Value).ownBlock ∧ some k_ ≠ (v308 : Value).ownBlock ∧ k_ ≠ gb303)) (Kd.R_types (Kd.R_apart' (Kd.R_apart' (HO317.out) (Kd.R_typed HO306.out) (by decide)) (Kd.R_typed HO309.out) (by decide)) BK303.out (by decide)) (fun k_ hk => ⟨hk.1.1.1.1, ⟨hk.1.1.2, ⟨hk.1.2, hk.2⟩⟩⟩))))) (Reps.c8 (show Kd.FK k58 _ _ (⟨t320, t321, t322, t323, t324, (⟨t325, t328, t329⟩ : S56)⟩ : S58) [.int .i64 t320, .int .i64 t321, .int .i64 t322, .int .i64 t323, .int .i64 t324, .slice Ao16 t325.length co16, .int .i64 t328, .int .i64 t329] from (k58_mkF _ _ (⟨t320, t321, t322, t323, t324, (⟨t325, t328, t329⟩ : S56)⟩ : S58) (Kd.R_reads' (Kd.R_mono (ok' := (fun k_ => (w.heap.size ≤ k_) ∧ some k_ ≠ (v305 : Value).ownBlock ∧ some k_ ≠ (v308 : Value).ownBlock ∧ k_ ≠ gb303)) (Kd.R_types (Kd.R_apart' (Kd.R_apart' (HO327.out) (Kd.R_typed HO306.out) (by decide)) (Kd.R_typed HO309.out) (by decide)) BK303.out (by decide)) (fun k_ hk => ⟨hk.1.1.1.1, ⟨hk.1.1.2, ⟨hk.1.2, hk.2⟩⟩⟩))).2.1 (Kd.R_F (Kd.R_mono (ok' := (fun k_ => (w.heap.size ≤ k_) ∧ some k_ ≠ (v305 : Value).ownBlock ∧ some k_ ≠ (v308 : Value).ownBlock ∧ k_ ≠ gb303)) (Kd.R_types (Kd.R_apart' (Kd.R_apart' (HO327.out) (Kd.R_typed HO306.out) (by decide)) (Kd.R_typed HO309.out) (by decide)) BK303.out (by decide)) (fun k_ hk => ⟨hk.1.1.1.1, ⟨hk.1.1.2, ⟨hk.1.2, hk.2⟩⟩⟩))))) (Reps.c8 (show Kd.FK k58 _ _ (⟨t330, t331, t332, t333, t334, (⟨t335, t338, t339⟩ : S56)⟩ : S58) [.int .i64 t330, .int .i64 t331, .int .i64 t332, .int .i64 t333, .int .i64 t334, .slice Ao17 t335.length co17, .int .i64 t338, .int .i64 t339] from (k58_mkF _ _ (⟨t330, t331, t332, t333, t334, (⟨t335, t338, t339⟩ : S56)⟩ : S58) (Kd.R_reads' (Kd.R_mono (ok' := (fun k_ => (w.heap.size ≤ k_) ∧ some k_ ≠ (v305 : Value).ownBlock ∧ some k_ ≠ (v308 : Value).ownBlock ∧ k_ ≠ gb303)) (Kd.R_types (Kd.R_apart' (Kd.R_apart' (HO337.out) (Kd.R_typed HO306.out) (by decide)) (Kd.R_typed HO309.out) (by decide)) BK303.out (by decide)) (fun k_ hk => ⟨hk.1.1.1.1, ⟨hk.1.1.2, ⟨hk.1.2, hk.2⟩⟩⟩))).2.1 (Kd.R_F (Kd.R_mono (ok' := (fun k_ => (w.heap.size ≤ k_) ∧ some k_ ≠ (v305 : Value).ownBlock ∧ some k_ ≠ (v308 : Value).ownBlock ∧ k_ ≠ gb303)) (Kd.R_types (Kd.R_apart' (Kd.R_apart' (HO337.out) (Kd.R_typed HO306.out) (by decide)) (Kd.R_typed HO309.out) (by decide)) BK303.out (by decide)) (fun k_ hk => ⟨hk.1.1.1.1, ⟨hk.1.1.2, ⟨hk.1.2, hk.2⟩⟩⟩))))) (Reps.none _ _)))))
    intro v341 w18 ho19 hb hg_ hnew_; clear hg_ hnew_
    (first | rw [← Ny340.out] at ho19 | (simp only [Int.reduceToNat] at ho19; rw [← Ny340.out] at ho19))
    have n0_ := Aside0.mk (Kd.R_below (byR HO306.out) hb); have n1_ := Aside0.mk (Kd.R_below (byR HO309.out) hb); have n2_ := Aside0.mk (Kd.N_lower ho19 (below_size (byB1 HB.out GE303.out))); have n3_ := Aside0.mk (blk_below (g := gb303) (o := .cells #[.slice none 0 0, .slice none 0 0, .slice none 0 0] 37 (0, 0)) (byK BK303.out) hb); have n4_ := Aside0.mk (below_step (byB1 HB.out GE303.out) hb); clear HO306 HO309 BK303 HB HO317 HO327 HO337; have HO306 := n0_; have HO309 := n1_; have HO342 := n2_; have BK303 := n3_; have HB := n4_; clear n0_ n1_ n2_ n3_ n4_ hb ho19
    obtain ⟨Ao20, co20, eo20⟩ := Kd.N_slice HO342.out
    (first | subst eo20 | (injection eo20 with f1_ f2_ f3_; have f4_ := f1_.symm; have f5_ := f3_.symm; clear f1_ f2_ f3_; subst f4_; subst f5_))
    obtain ⟨Ao21, co21, eo21⟩ := Kd.R_slice HO309.out
    (first | subst eo21 | (injection eo21 with f1_ f2_ f3_; have f4_ := f1_.symm; have f5_ := f3_.symm; clear f1_ f2_ f3_; subst f4_; subst f5_))
    obtain ⟨Ao22, co22, eo22⟩ := Kd.R_slice HO306.out
    (first | subst eo22 | (injection eo22 with f1_ f2_ f3_; have f4_ := f1_.symm; have f5_ := f3_.symm; clear f1_ f2_ f3_; subst f4_; subst f5_))
    refine hK.out _ _ trivial (fun hHeld => ?_)
    clear hK K
    refine norm_ (a' := ?_) ?_ ?_
    rotate_left
    ·show Act.put _ (some 6) _ = _
     simp only [putW]; rfl
    exact norm_ (by first | (simp only [putAll, Act.put, List.setIfInBounds_toArray, List.set_cons_zero, List.set_cons_succ]; done) | (simp only [putAll, Act.put, List.setIfInBounds_toArray, List.set_cons_zero, List.set_cons_succ]; rfl)) (hJ0_1_2_3_4_5 (.slice Ao22 y304.length co22, .slice Ao21 y307.length co21, .slice Ao15 t315.length co15, .slice Ao16 t325.length co16, .slice Ao17 t335.length co17, .slice Ao20 y340.length co20) _ ⟨(byR HO306.out), (byR HO309.out), (byN HO342.out), (byK BK303.out), (byB1 HB.out GE303.out)⟩)
  rintro ⟨v305, v308, v316, v326, v336, v341⟩ w22 ⟨h0_, h1_, h2_, h3_, h4_⟩
  have n0_ : Aside0 (Kd.R (Kd.int .i64) 3 w22 w.heap.size (fun k_ => (w.heap.size ≤ k_)) v305 y304) := ⟨h0_⟩
  have n1_ : Aside0 (Kd.R k158 158 w22 w.heap.size (fun k_ => (w.heap.size ≤ k_)) v308 y307) := ⟨h1_⟩
  have n2_ : Aside0 (Kd.N k58 58 w22 w.heap.size (fun k_ => (w.heap.size ≤ k_) ∧ some k_ ≠ (v305 : Value).ownBlock ∧ some k_ ≠ (v308 : Value).ownBlock ∧ k_ ≠ gb303) v341 y340) := ⟨h2_⟩
  have n3_ : Aside0 (w22.heap[gb303]? = some (.cells #[.slice none 0 0, .slice none 0 0, .slice none 0 0] 37 (0, 0))) := ⟨h3_⟩
  have n4_ : Aside0 (Below w.heap.size w w22) := ⟨h4_⟩
  clear BK303 HB h0_ h1_ h2_ h3_ h4_; have HO306 := n0_; have HO309 := n1_; have HO342 := n2_; have BK303 := n3_; have HB := n4_; clear n0_ n1_ n2_ n3_ n4_; have hHeld := trivial
  obtain ⟨Ao23, co23, eo23⟩ := Kd.N_slice HO342.out
  (first | subst eo23 | (injection eo23 with f1_ f2_ f3_; have f4_ := f1_.symm; have f5_ := f3_.symm; clear f1_ f2_ f3_; subst f4_; subst f5_))
  obtain ⟨Ao24, co24, eo24⟩ := Kd.R_slice HO309.out
  (first | subst eo24 | (injection eo24 with f1_ f2_ f3_; have f4_ := f1_.symm; have f5_ := f3_.symm; clear f1_ f2_ f3_; subst f4_; subst f5_))
  obtain ⟨Ao25, co25, eo25⟩ := Kd.R_slice HO306.out
  (first | subst eo25 | (injection eo25 with f1_ f2_ f3_; have f4_ := f1_.symm; have f5_ := f3_.symm; clear f1_ f2_ f3_; subst f4_; subst f5_))
  refine norm_ (a' := ?_) ?_ ?_
  rotate_left
  ·simp only [putAll, Act.put, List.setIfInBounds_toArray, List.set_cons_zero, List.set_cons_succ]
   rfl
  refine q_ 6 7 HT_ ?_; refine one_ (i := 7) (N := none) (bits 8 255) rfl rfl (one_of HT_.out (by kernel_rfl)) (by decide) (fun K hK => ?_)
  have hs26 : w22.cell? ⟨gb303, 0, none⟩ = some (.slice none 0 0) := (blk_cell BK303.out 0).trans rfl
  have hfs26 := blk_frozen BK303.out 0
  have hs27 : w22.cell? ⟨gb303, 1, none⟩ = some (.slice none 0 0) := (blk_cell BK303.out 1).trans rfl
  have hfs27 := blk_frozen BK303.out 1
  have hs28 : w22.cell? ⟨gb303, 2, none⟩ = some (.slice none 0 0) := (blk_cell BK303.out 2).trans rfl
  have hfs28 := blk_frozen BK303.out 2
  refine skip_ (w1 := ?_) (by rfl) rfl ?_ ?_
  rotate_left; (·go_simp; rfl)
  refine hK.out _ _ trivial (fun hHeld => ?_)
  clear hK K
  refine done_ (done_of HT_.out (by kernel_rfl)) ?_
  try go_wp2
  refine bodyPost_ret (results_cell_row rfl _ _ gb303 37 #[.slice Ao25 y304.length co25, .slice Ao24 y307.length co24, .slice Ao23 y340.length co23] (0, 0) _ rfl (by (with_reducible repeat (first | refine blk_drewN ?_ _ | refine blk_drew ?_ | refine blk_alloc ?_ _)); refine blk_put (cs := #[.slice Ao25 y304.length co25, .slice Ao24 y307.length co24, .slice none 0 0]) ?_ 2 _ rfl; (with_reducible repeat (first | refine blk_drewN ?_ _ | refine blk_drew ?_ | refine blk_alloc ?_ _)); refine blk_put (cs := #[.slice Ao25 y304.length co25, .slice none 0 0, .slice none 0 0]) ?_ 1 _ rfl; (with_reducible repeat (first | refine blk_drewN ?_ _ | refine blk_drew ?_ | refine blk_alloc ?_ _)); refine blk_put (cs := #[.slice none 0 0, .slice none 0 0, .slice none 0 0]) ?_ 0 _ rfl; (with_reducible repeat (first | refine blk_drewN ?_ _ | refine blk_drew ?_ | refine blk_alloc ?_ _)); exact BK303.out) Try.underlying37 rfl (by kernel_rfl)) rfl ?_
  exact ⟨_, _, _, byE, by (with_reducible repeat (first | apply Kd.R_alloc | apply Kd.R_drewN | apply Kd.R_drew)); exact Kd.R_mono (Kd.R_far (p := ⟨gb303, 2, none⟩) (Kd.R_far (p := ⟨gb303, 1, none⟩) (Kd.R_far (p := ⟨gb303, 0, none⟩) (Kd.R_types HO306.out BK303.out (by decide)) (fun _ hk => hk.2) (.slice Ao25 y304.length co25)) (fun _ hk => hk.2) (.slice Ao24 y307.length co24)) (fun _ hk => hk.2) (.slice Ao23 y340.length co23)) (fun _ hk => hk.1), by (with_reducible repeat (first | apply Kd.R_alloc | apply Kd.R_drewN | apply Kd.R_drew)); exact Kd.R_mono (Kd.R_far (p := ⟨gb303, 2, none⟩) (Kd.R_far (p := ⟨gb303, 1, none⟩) (Kd.R_far (p := ⟨gb303, 0, none⟩) (Kd.R_types HO309.out BK303.out (by decide)) (fun _ hk => hk.2) (.slice Ao25 y304.length co25)) (fun _ hk => hk.2) (.slice Ao24 y307.length co24)) (fun _ hk => hk.2) (.slice Ao23 y340.length co23)) (fun _ hk => hk.1), by (with_reducible repeat (first | apply Kd.N_alloc | apply Kd.N_drewN | apply Kd.N_drew)); exact Kd.N_mono (Kd.N_far (p := ⟨gb303, 2, none⟩) (Kd.N_far (p := ⟨gb303, 1, none⟩) (Kd.N_far (p := ⟨gb303, 0, none⟩) (Kd.N_mono HO342.out (fun k_ hk => (⟨hk, hk.2.2.2⟩ : _ ∧ k_ ≠ gb303))) (fun _ hk => hk.2) (.slice Ao25 y304.length co25)) (fun _ hk => hk.2) (.slice Ao24 y307.length co24)) (fun _ hk => hk.2) (.slice Ao23 y340.length co23)) (fun _ hk => ⟨hk.1.1, ⟨hk.1.2.1, hk.1.2.2.1⟩⟩), byB1 HB.out GE303.out⟩
 ·rw [if_neg c1] at H
  exact absurd H (by simp)
end Go.Proofs.Ytaodlehnfjalnaa.Print
