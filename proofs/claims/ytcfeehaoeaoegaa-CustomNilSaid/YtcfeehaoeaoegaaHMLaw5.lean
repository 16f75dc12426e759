/- CustomNil: a nil metric has no hierarchy and no weights. -/
import Derived.Test.YtcfeehaoeaoegaaHMSetup
namespace Go.Proofs.Ytcfeehaoeaoegaa.Print
open Go.RowKit Go.Proofs.YtcfeehaoeaoegaaW.PrintWords Go.Proofs.YtcfeehaoeaoegaaW.PrintLast Go.Proofs.YtcfeehaoeaoegaaW.PrintMore
set_option linter.unusedVariables false
set_option linter.unusedSimpArgs false

set_option maxHeartbeats 1600000 in
set_option maxRecDepth 100000 in
theorem Metric_Weights.nil (w : World) : Calls Try.prog 48 #[.pointer none] w fun e w' => e = .returned (.slice none 0 0) ∧ w' = w := by
  go_enter Try.func48, Try.ntmps48
  go_wp2
  go_ret
  exact ⟨rfl, rfl⟩
set_option maxHeartbeats 1600000 in
set_option maxRecDepth 100000 in
theorem Metric_Copy.nil (w : World) : Calls Try.prog 45 #[.pointer none] w fun e w' => e = .returned (.pointer none) ∧ w' = w := by
  go_enter Try.func45, Try.ntmps45
  go_wp2
  go_ret
  exact ⟨rfl, rfl⟩
set_option maxHeartbeats 1600000 in
set_option maxRecDepth 100000 in
theorem Metric_Set.nil (A B : Option Addr) (l m c d : Nat) (w : World) : Calls Try.prog 43 #[.pointer none, .slice A l c, .slice B m d] w fun e w' => e = .returned (.tuple #[.int .i64 0, .int .i64 1]) ∧ Below w.heap.size w w' := by
  go_enter Try.func43, Try.ntmps43
  go_wp2_with (fail)
  go_ret2
  exact ⟨rfl, (Below.refl _ _).alloc (Nat.le_refl _) _⟩
def mapmakerlaw41_CustomNil.f (a0 : Int) (l1 : List Int) (l2 : List Int) : Option Bool := some true
set_option maxHeartbeats 6400000 in
set_option maxRecDepth 100000 in
theorem mapmakerlaw41_CustomNil.calls (a0 : Int) (A1 : Option Addr) (c1 : Nat) (l1 : List Int) (A2 : Option Addr) (c2 : Nat) (l2 : List Int) (r : Bool) (w : World) (hr1 : Kd.C (Kd.int .i64) w A1 l1.length l1) (hc1 : l1.length ≤ c1) (hr2 : Kd.C (Kd.int .i64) w A2 l2.length l2) (hc2 : l2.length ≤ c2) (h : mapmakerlaw41_CustomNil.f a0 l1 l2 = some r) :
    Calls Try.prog 11 #[.int .i64 a0, .slice A1 l1.length c1, .slice A2 l2.length c2] w fun e w' => e = .returned (.bool r) ∧ Below w.heap.size w w' := by
  injection h with h
  subst h
  clear hr1 hr2 hc1 hc2
  go_enter Try.func11, Try.ntmps11
  go_wp2_with (fail)
  refine (Metric_Set.nil A1 A2 l1.length l2.length c1 c2 w).mono ?_
  rintro e w1 ⟨rfl, hb1⟩
  have HB := Aside0.mk hb1
  clear hb1
  go_wp2_with (fail)
  refine (Metric_Hier.nil _).mono ?_
  rintro e w2 ⟨rfl, rfl⟩
  go_wp2_with (fail)
  refine (Metric_Weights.nil _).mono ?_
  rintro e w3 ⟨rfl, rfl⟩
  go_wp2_with (fail)
  refine (Metric_Up.nil a0 _).mono ?_
  rintro e w4 ⟨rfl, rfl⟩
  unfold mInf
  go_wp2_with (fail)
  refine (Metric_Down.nil a0 _).mono ?_
  rintro e w5 ⟨rfl, rfl⟩
  unfold mInf
  go_wp2_with (fail)
  refine (Metric_Copy.nil _).mono ?_
  rintro e w6 ⟨rfl, rfl⟩
  go_wp2_with (fail)
  refine (mapmakerlaw41_lives.calls _).mono ?_
  rintro e w7 ⟨rfl, hb7⟩
  replace HB := Aside0.mk (below_then HB.out HB.out.size hb7)
  clear hb7
  go_wp2
  go_ret
  exact ⟨rfl, HB.out⟩
end Go.Proofs.Ytcfeehaoeaoegaa.Print
