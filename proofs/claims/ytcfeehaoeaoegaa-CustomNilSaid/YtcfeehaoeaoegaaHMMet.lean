/- A metric in memory, to be read; the call of the closure of weights. -/
import Derived.Test.YtcfeehaoeaoegaaHKRead
import Derived.Test.YtcfeehaoeaoegaaHSets
namespace Go.Proofs.Ytcfeehaoeaoegaa.Print
open Go.RowKit Go.Proofs.YtcfeehaoeaoegaaW.PrintWords Go.Proofs.YtcfeehaoeaoegaaW.PrintLast Go.Proofs.YtcfeehaoeaoegaaW.PrintMore
set_option linter.unusedVariables false
set_option linter.unusedSimpArgs false

/-- Block q is a metric of the hierarchy p, to be read. -/
structure MetR (w : World) (q p : Nat) (ws : List Int) (ar : List (List Int)) (up dn : List Int) : Prop where
  out : ∃ wA wc aA ac uA uc dA dc, w.heap[q]? = some (.cells #[.pointer (some ⟨p, 0, none⟩), .slice wA ws.length wc, .slice aA ar.length ac, .slice uA up.length uc, .slice dA dn.length dc] 95 (0, 0)) ∧
    (Kd.C (Kd.int .i64) w wA ws.length ws ∧ ws.length ≤ wc) ∧ (Kd.C (Kd.slice 3 (Kd.int .i64)) w aA ar.length ar ∧ ar.length ≤ ac) ∧ (Kd.C (Kd.int .i64) w uA up.length up ∧ up.length ≤ uc) ∧ (Kd.C (Kd.int .i64) w dA dn.length dn ∧ dn.length ≤ dc)
theorem MetR.below {w w1 : World} {q p : Nat} {ws : List Int} {ar : List (List Int)} {up dn : List Int} (h : MetR w q p ws ar up dn) (hb : Below w.heap.size w w1) : MetR w1 q p ws ar up dn := by
  obtain ⟨wA, wc, aA, ac, uA, uc, dA, dc, h1, h2, h3, h4, h5⟩ := h.out
  exact ⟨wA, wc, aA, ac, uA, uc, dA, dc, (hb.block q (hblk_lt h1)).trans h1, ⟨Kd.C_below h2.1 hb, h2.2⟩, ⟨Kd.C_below h3.1 hb, h3.2⟩, ⟨Kd.C_below h4.1 hb, h4.2⟩, ⟨Kd.C_below h5.1 hb, h5.2⟩⟩
def mInf : Int := 1152921504606846976
/-- The sum of two weights, Inf if one of them is. -/
def over (a b : Int) : Int := if a = mInf ∨ b = mInf then mInf else a + b

set_option maxHeartbeats 1600000 in
set_option maxRecDepth 100000 in
theorem weights_over.calls (a b : Int) (ha : 0 ≤ a ∧ a ≤ mInf) (hb : 0 ≤ b ∧ b ≤ mInf) (w : World) :
    Calls Try.prog 74 #[.int .i64 a, .int .i64 b] w fun e w' => e = .returned (.int .i64 (over a b)) ∧ w' = w := by
  unfold mInf at ha hb
  by_cases h1 : a = 1152921504606846976
  · have HO : Aside0 (over a b = 1152921504606846976) := ⟨by unfold over mInf; rw [if_pos (.inl h1)]⟩
    go_enter Try.func74, Try.ntmps74
    go_wp2
    go_ret
    exact ⟨by rw [HO.out]; rfl, rfl⟩
  · by_cases h2 : b = 1152921504606846976
    · have HO : Aside0 (over a b = 1152921504606846976) := ⟨by unfold over mInf; rw [if_pos (.inr h2)]⟩
      go_enter Try.func74, Try.ntmps74
      go_wp2
      go_ret
      exact ⟨by rw [HO.out]; rfl, rfl⟩
    · have HO : Aside0 (over a b = a + b) := ⟨by unfold over mInf; rw [if_neg (by omega)]⟩
      have e1 : ¬ ((a == 1152921504606846976) = true ∨ (b == 1152921504606846976) = true) := by simp [h1, h2]
      go_enter Try.func74, Try.ntmps74
      go_wp2
      go_ret
      exact ⟨by rw [HO.out]; rfl, rfl⟩
set_option maxHeartbeats 1600000 in
set_option maxRecDepth 100000 in
theorem Metric_Hier.nil (w : World) : Calls Try.prog 37 #[.pointer none] w fun e w' => e = .returned (.pointer none) ∧ w' = w := by
  go_enter Try.func37, Try.ntmps37
  go_wp2
  go_ret
  exact ⟨rfl, rfl⟩
set_option maxHeartbeats 1600000 in
set_option maxRecDepth 100000 in
theorem Metric_Hier.calls {w : World} {q p : Nat} {ws : List Int} {ar : List (List Int)} {up dn : List Int} (h : MetR w q p ws ar up dn) :
    Calls Try.prog 37 #[.pointer (some ⟨q, 0, none⟩)] w fun e w' => e = .returned (.pointer (some ⟨p, 0, none⟩)) ∧ w' = w := by
  obtain ⟨wA, wc, aA, ac, uA, uc, dA, dc, h1, _⟩ := h.out
  clear h
  have hc0 := (blk_cell h1 0).trans rfl
  go_enter Try.func37, Try.ntmps37
  go_wp2
  go_ret
  exact ⟨rfl, rfl⟩
/-- The weight of a direction of an edge, Inf where there is none. -/
def sideS (l : List Int) (e : Int) : Int := if 0 ≤ e ∧ e < (l.length : Int) then l.getD e.toNat 0 else mInf
set_option maxHeartbeats 1600000 in
set_option maxRecDepth 100000 in
theorem Metric_Up.nil (e : Int) (w : World) : Calls Try.prog 46 #[.pointer none, .int .i64 e] w fun x w' => x = .returned (.int .i64 mInf) ∧ w' = w := by
  go_enter Try.func46, Try.ntmps46
  go_wp2
  go_ret
  exact ⟨rfl, rfl⟩
set_option maxHeartbeats 1600000 in
set_option maxRecDepth 100000 in
theorem Metric_Up.calls {w : World} {q p : Nat} {ws : List Int} {ar : List (List Int)} {up dn : List Int} (h : MetR w q p ws ar up dn) (e : Int) :
    Calls Try.prog 46 #[.pointer (some ⟨q, 0, none⟩), .int .i64 e] w fun x w' => x = .returned (.int .i64 (sideS up e)) ∧ w' = w := by
  obtain ⟨wA, wc, aA, ac, uA, uc, dA, dc, h1, h2, h3, h4, h5⟩ := h.out
  have hcc := (blk_cell h1 3).trans rfl
  have HC := Aside0.mk h4.1
  clear h h1 h2 h3 h4 h5
  by_cases h0 : 0 ≤ e
  · by_cases hl : e < (up.length : Int)
    · have HS := Aside0.mk (show sideS up e = up.getD e.toNat 0 by unfold sideS; rw [if_pos ⟨h0, hl⟩])
      rcases cells_of_C HC.out with ⟨hz, _⟩ | ⟨_, b, off, hA, hce⟩
      · omega
      subst hA
      obtain ⟨k, rfl⟩ := Int.eq_ofNat_of_zero_le h0
      have hcx := hce k (by omega)
      rw [Int.toNat_natCast] at HS
      clear hce HC
      generalize up.getD k 0 = x at hcx HS
      go_enter Try.func46, Try.ntmps46
      go_wp2
      go_ret
      exact ⟨by rw [HS.out]; rfl, rfl⟩
    · have HS := Aside0.mk (show sideS up e = 1152921504606846976 by unfold sideS mInf; rw [if_neg (fun x => hl x.2)])
      go_enter Try.func46, Try.ntmps46
      go_wp2
      go_ret
      exact ⟨by rw [HS.out]; rfl, rfl⟩
  · have HS := Aside0.mk (show sideS up e = 1152921504606846976 by unfold sideS mInf; rw [if_neg (fun x => h0 x.1)])
    go_enter Try.func46, Try.ntmps46
    go_wp2
    go_ret
    exact ⟨by rw [HS.out]; rfl, rfl⟩
set_option maxHeartbeats 1600000 in
set_option maxRecDepth 100000 in
theorem Metric_Down.nil (e : Int) (w : World) : Calls Try.prog 47 #[.pointer none, .int .i64 e] w fun x w' => x = .returned (.int .i64 mInf) ∧ w' = w := by
  go_enter Try.func47, Try.ntmps47
  go_wp2
  go_ret
  exact ⟨rfl, rfl⟩
set_option maxHeartbeats 1600000 in
set_option maxRecDepth 100000 in
theorem Metric_Down.calls {w : World} {q p : Nat} {ws : List Int} {ar : List (List Int)} {up dn : List Int} (h : MetR w q p ws ar up dn) (e : Int) :
    Calls Try.prog 47 #[.pointer (some ⟨q, 0, none⟩), .int .i64 e] w fun x w' => x = .returned (.int .i64 (sideS dn e)) ∧ w' = w := by
  obtain ⟨wA, wc, aA, ac, uA, uc, dA, dc, h1, h2, h3, h4, h5⟩ := h.out
  have hcc := (blk_cell h1 4).trans rfl
  have HC := Aside0.mk h5.1
  clear h h1 h2 h3 h4 h5
  by_cases h0 : 0 ≤ e
  · by_cases hl : e < (dn.length : Int)
    · have HS := Aside0.mk (show sideS dn e = dn.getD e.toNat 0 by unfold sideS; rw [if_pos ⟨h0, hl⟩])
      rcases cells_of_C HC.out with ⟨hz, _⟩ | ⟨_, b, off, hA, hce⟩
      · omega
      subst hA
      obtain ⟨k, rfl⟩ := Int.eq_ofNat_of_zero_le h0
      have hcx := hce k (by omega)
      rw [Int.toNat_natCast] at HS
      clear hce HC
      generalize dn.getD k 0 = x at hcx HS
      go_enter Try.func47, Try.ntmps47
      go_wp2
      go_ret
      exact ⟨by rw [HS.out]; rfl, rfl⟩
    · have HS := Aside0.mk (show sideS dn e = 1152921504606846976 by unfold sideS mInf; rw [if_neg (fun x => hl x.2)])
      go_enter Try.func47, Try.ntmps47
      go_wp2
      go_ret
      exact ⟨by rw [HS.out]; rfl, rfl⟩
  · have HS := Aside0.mk (show sideS dn e = 1152921504606846976 by unfold sideS mInf; rw [if_neg (fun x => h0 x.1)])
    go_enter Try.func47, Try.ntmps47
    go_wp2
    go_ret
    exact ⟨by rw [HS.out]; rfl, rfl⟩
end Go.Proofs.Ytcfeehaoeaoegaa.Print
