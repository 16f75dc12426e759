/- OrderForests: MinDegree is an order of the vertices, and connects no pairs if the graph has no cycles. -/
import Derived.Test.YtnnknbghfbjcnaaHPOi
import Derived.Test.YtnnknbghfbjcnaaHPOa
import Derived.Test.YtnnknbghfbjcnaaHP37d
import Derived.Test.YtnnknbghfbjcnaaF13
namespace Go.Proofs.Ytnnknbghfbjcnaa.Print
open Go.RowKit Go.Proofs.YtnnknbghfbjcnaaW.PrintWords Go.Proofs.YtnnknbghfbjcnaaW.PrintLast Go.Proofs.YtnnknbghfbjcnaaW.PrintMore
set_option linter.unusedVariables false
set_option linter.unusedSimpArgs false
set_option linter.unusedSectionVars false

theorem wrap_plus {a b : Nat} (h : a + b < 1000000000000000) : wrap64 ((a : Int) + (b : Int)) = ((a + b : Nat) : Int) := by unfold wrap64; omega
theorem nbRows_at (n : Nat) (l : List S40) (v : Nat) (hv : v < n) : rd_L2 (nbRows n l) (v : Int) = nbS l (v : Int) := by
  rw [rd_row _ v (by rw [nbRows_length]; exact hv), nbRows_get]
theorem repS_len (n : Nat) (l : List S40) : (repS n l).length = n := by simp [repS]
theorem repS_at (n : Nat) (l : List S40) (v : Nat) (hv : v < n) : rd (repS n l) (v : Int) = ((rep (Adj l) v : Nat) : Int) := by
  rw [rd_int _ v (by rw [repS_len]; exact hv)]
  simp [repS]
noncomputable def treesTo (l : List S40) (v : Nat) : Nat := cf (fun u => decide (rep (Adj l) u = u)) v 0
theorem treesTo_succ (l : List S40) (v : Nat) : treesTo l (v + 1) = treesTo l v + (if rep (Adj l) v = v then 1 else 0) := by
  unfold treesTo
  rw [cf_last, Nat.zero_add]
  simp
theorem treesTo_le (l : List S40) (v : Nat) : treesTo l v ≤ v := cf_le _ v 0
section
variable {n : Nat} {l : List S40} (hc : chk (n : Int) l = 0) (hn : n ≤ 20000)
include hc hn
def endsTo (n : Nat) (l : List S40) (v : Nat) : Nat := sm (dgOf (nbsOf (nbRows n l))) v
omit hc hn in
theorem endsTo_succ {v : Nat} (hv : v < n) : endsTo n l (v + 1) = endsTo n l v + (nbS l (v : Int)).length := by
  show sm (dgOf (nbsOf (nbRows n l))) v + dgOf (nbsOf (nbRows n l)) v = _
  unfold dgOf
  rw [nbs_keys hv]
  rfl
theorem nbS_le {v : Nat} (hv : v < n) : (nbS l (v : Int)).length ≤ n := by
  refine keys_le (inc_nodup (inc_setOf _)) fun x hx => ?_
  obtain ⟨y, rfl, hy⟩ := nbS_nat hc hx
  simp at hy
  omega
theorem endsTo_le : ∀ v, v ≤ n → endsTo n l v ≤ v * n
  | 0, _ => by simp [endsTo, sm]
  | v + 1, h => by
    have h1 := endsTo_le v (by omega)
    have h2 := nbS_le hc hn (v := v) (by omega)
    rw [endsTo_succ (by omega), Nat.succ_mul]
    omega
theorem forest_fill (hE : endsTo n l n / 2 = n - treesTo l n) : fillS n l (minS n l) = 0 := by
  have hG := nbs_good hc
  rw [Int.toNat_natCast] at hG
  have hlen := nbs_length n l
  have hout := nbs_outs n l
  have hmo := min_order hn n (nbsOf (nbRows n l)) [] (by simp) hlen hG hout (by simp)
  rw [List.nil_append] at hmo
  have hms : minS n l = minGo n (nbsOf (nbRows n l)) := by
    unfold minS
    rw [if_pos hc, Int.toNat_natCast]
  have hord : ordGo n (minS n l).length [] (minS n l) = 0 := by
    rw [hms]
    exact ord_of _ [] hmo.2.2 hmo.1 (by simp) (by rw [hmo.2.1]; omega)
  unfold fillS
  rw [if_pos ⟨hc, hord⟩, hms, Int.toNat_natCast]
  have hle := treesTo_le l n
  refine forest_go hn (rep (Adj l)) (fun v hv => by have := rep_le_self (Adj l) v; omega) (fun v => rep_rep (@Adj.symm l) v) (endsTo n l n) ?_ n (nbsOf (nbRows n l)) [] [] (by simp) hlen hG hout (by simp) (by simp) (by simp) (by simp) ?_ ?_
  · show endsTo n l n + 2 * treesTo l n < 2 * n + 2
    omega
  · intro x y hx hy hr
    have h1 := rep_conn (Adj l) x
    have h2 := rep_conn (Adj l) y
    rw [← hr] at h2
    have h3 : Conn (Adj l) x y := (Conn.symm (@Adj.symm l) h1).trans h2
    refine Conn.mono (fun u v huv => ?_) h3
    have hu : u < n := by
      have := Adj.lt hc (Adj.symm _ _ huv)
      simpa using this
    exact ⟨nbs_alive.2 ⟨by omega, by simpa using hu⟩, by rw [nbs_keys hu, mem_nbS]; exact huv⟩
  · simp [endsTo]
theorem forests_l0 (hl : l.length < 100000000000) : ∀ (d v : Nat), v + d = n →
    Ev (fun k => mapmakerlaw39_OrderForests.l0 k (endsTo n l v : Int) (treesTo l v : Int) (v : Int) (minS n l) (nbRows n l) (repS n l) (n : Int) l) true
  | 0, v, h => by
    have hv : v = n := by omega
    subst hv
    have hle := treesTo_le l v
    have hel := endsTo_le hc hn v (Nat.le_refl _)
    have hnn : v * v ≤ 20000 * 20000 := Nat.mul_le_mul hn hn
    have hw1 : wrap64 (Int.tdiv (endsTo v l v : Int) 2) = ((endsTo v l v / 2 : Nat) : Int) := by
      rw [Int.tdiv_eq_ediv_of_nonneg (by omega)]
      unfold wrap64
      omega
    have hw2 : wrap64 ((v : Int) - (treesTo l v : Int)) = ((v - treesTo l v : Nat) : Int) := by
      unfold wrap64
      omega
    refine Ev.step (f := fun _ => some true) (fun k => ?_) (Ev.now _)
    rw [mapmakerlaw39_OrderForests.l0, nbRows_length, if_neg (by omega), hw1, hw2, repS_len, lives39]
    by_cases hE : endsTo v l v / 2 = v - treesTo l v
    · have hf : order_Fill.f (v : Int) l (minS v l) = some 0 := by
        rw [← forest_fill hc hn hE]
        exact if_pos ⟨hl, by omega⟩
      rw [if_pos (by omega), hf]
      simp
    · rw [if_neg (by omega)]
      simp
  | d + 1, v, h => by
    have hv : v < n := by omega
    have ih := forests_l0 hl d (v + 1) (by omega)
    have hle := treesTo_le l v
    have hel := endsTo_le hc hn v (by omega)
    have hnn : v * n ≤ 20000 * 20000 := Nat.mul_le_mul (by omega) hn
    have hnb := nbS_le hc hn hv
    rw [endsTo_succ hv, treesTo_succ] at ih
    refine Ev.step (fun k => ?_) ih
    rw [mapmakerlaw39_OrderForests.l0, nbRows_length, repS_len, if_pos (by omega), if_pos (by omega), if_pos (by omega), nbRows_at n l v hv, repS_at n l v hv, wrap_plus (by omega), wrap_succ (show v < 1000000000000000 by omega)]
    by_cases hr : rep (Adj l) v = v
    · rw [if_pos (by rw [hr]), if_pos hr, wrap_succ (show treesTo l v < 1000000000000000 by omega)]
    · rw [if_neg (by omega), if_neg hr]
      rfl
end
theorem OrderForests_pure : mapmakerlaw39_OrderForests.Pure := by
  intro N l _ _
  refine Ev.rounds ?_
  unfold mapmakerlaw39_OrderForests.f mapmakerlaw39_Few.f
  have hskip : Ev (fun k => mapmakerlaw39_OrderForests.j0 k true N l) true := by
    refine Ev.step (f := fun _ => some true) (fun k => ?_) (Ev.now _)
    rw [mapmakerlaw39_OrderForests.j0, if_pos rfl, lives39]
    rfl
  by_cases hN : N ≤ 12
  · by_cases hl : (l.length : Int) ≤ 40
    · simp only [hN, hl, if_true, decide_true, Option.bind_some]
      refine Ev.bind (graph_Check.ev N l (by omega)) ?_
      by_cases hc : chk N l = 0
      · obtain ⟨h0, _, _⟩ := chk_ok hc
        obtain ⟨n, rfl⟩ := Int.eq_ofNat_of_zero_le h0
        have hn : n ≤ 20000 := by omega
        have hG := nbs_good hc
        rw [Int.toNat_natCast] at hG
        have hmo := min_order hn n (nbsOf (nbRows n l)) [] (by simp) (nbs_length n l) hG (nbs_outs n l) (by simp)
        rw [List.nil_append] at hmo
        have hms : minS n l = minGo n (nbsOf (nbRows n l)) := by
          unfold minS
          rw [if_pos hc, Int.toNat_natCast]
        have hord : ordGo n (minS n l).length [] (minS n l) = 0 := by
          rw [hms]
          exact ord_of _ [] hmo.2.2 hmo.1 (by simp) (by rw [hmo.2.1]; omega)
        have h1 : order_MinDegree.f (n : Int) l = some (minS n l) := if_pos ⟨by omega, by omega⟩
        have h2 : order_Check.f (n : Int) (minS n l) = some 0 := by
          unfold order_Check.f
          rw [hord]
        have hb : (chk (n : Int) l != 0) = false := by rw [hc]; rfl
        rw [hb]
        have hnb := graph_Neighbours.ev (n : Int) l (by omega)
        have hpt := graph_Parts.ev (n : Int) l (by omega)
        have hne : neighS (n : Int) l = nbRows n l := by
          unfold neighS
          rw [if_pos hc, Int.toNat_natCast]
        have hpe : partsS (n : Int) l = repS n l := by
          unfold partsS
          rw [if_pos hc, Int.toNat_natCast]
        rw [hne] at hnb
        rw [hpe] at hpt
        have h3 := forests_l0 hc hn (by omega) n 0 (by omega)
        refine Ev.step (fun k => ?_) (Ev.bind hnb (f := fun k t => (graph_Parts.f k (n : Int) l).bind fun t2 => mapmakerlaw39_OrderForests.l0 k 0 0 0 (minS n l) t t2 (n : Int) l) (Ev.bind hpt (f := fun k t2 => mapmakerlaw39_OrderForests.l0 k 0 0 0 (minS n l) (nbRows n l) t2 (n : Int) l) h3))
        rw [mapmakerlaw39_OrderForests.j0, if_neg (by decide), h1]
        simp only [Option.bind_some, h2, if_true]
      · have hb : (chk N l != 0) = true := by simpa using hc
        rw [hb]
        exact hskip
    · simp only [hN, hl, if_true, decide_false, Option.bind_some, Bool.false_eq_true, if_false]
      exact hskip
  · simp only [hN, if_false, Option.bind_some, Bool.false_eq_true]
    exact hskip
end Go.Proofs.Ytnnknbghfbjcnaa.Print
