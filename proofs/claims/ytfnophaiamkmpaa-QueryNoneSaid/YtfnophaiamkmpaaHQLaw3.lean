import Derived.Test.YtfnophaiamkmpaaM27
namespace Go.Proofs.Ytfnophaiamkmpaa.Print
open Go.RowKit Go.Proofs.YtfnophaiamkmpaaW.PrintWords Go.Proofs.YtfnophaiamkmpaaW.PrintLast Go.Proofs.YtfnophaiamkmpaaW.PrintMore
set_option linter.unusedVariables false
set_option linter.unusedSimpArgs false
def mapmakerlaw42_QueryNone.f (a0 a1 : Int) : Option Bool := some true
set_option maxHeartbeats 12800000 in
set_option maxRecDepth 100000 in
theorem mapmakerlaw42_QueryNone.calls (a0 : Int) (a1 : Int) (r : Bool) (w : World) (h : mapmakerlaw42_QueryNone.f a0 a1 = some r) :
  Calls Try.prog 8 #[.int .i64 a0, .int .i64 a1] w fun e w' => e = .returned (.bool r) ∧ Below w.heap.size w w' := by
 injection h with h
 subst h
 go_enter Try.func8, Try.ntmps8
 go_wp2_with (fail)
 refine (query_Dist.nil a0 a1).mono ?_
 rintro e w1 ⟨rfl, hb⟩
 have HB := Aside0.mk hb
 clear hb
 go_wp2_with (fail)
 refine (query_Path.nil a0 a1).mono ?_
 rintro e w2 ⟨rfl, hb⟩
 replace HB := Aside0.mk (below_then HB.out HB.out.size hb)
 clear hb
 go_wp2_with (fail)
 refine (query_Meet.nil a0 a1).mono ?_
 rintro e w3 ⟨rfl, hb⟩
 replace HB := Aside0.mk (below_then HB.out HB.out.size hb)
 clear hb
 go_wp2_with (fail)
 refine (query_Unpack.nil a0 true).mono ?_
 rintro e w4 ⟨rfl, hb⟩
 replace HB := Aside0.mk (below_then HB.out HB.out.size hb)
 clear hb
 go_wp2_with (fail)
 refine (query_Upward.nil a0 true).mono ?_
 rintro e w5 ⟨rfl, hb⟩
 replace HB := Aside0.mk (below_then HB.out HB.out.size hb)
 clear hb
 go_wp2_with (fail)
 refine (mapmakerlaw42_lives.calls _).mono ?_
 rintro e wl ⟨rfl, hbl⟩
 replace HB := Aside0.mk (below_then HB.out HB.out.size hbl)
 clear hbl
 go_wp2
 go_ret
 exact ⟨rfl, HB.out⟩
end Go.Proofs.Ytfnophaiamkmpaa.Print
