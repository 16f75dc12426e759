/- The call of dijkstra.Check. -/
import Derived.Test.YtcfeehaoeaoegaaHP37k
import Derived.Test.YtcfeehaoeaoegaaHSets
import Derived.Test.YtcfeehaoeaoegaaHXShort
namespace Go.Proofs.Ytcfeehaoeaoegaa.Print
open Go.RowKit Go.Proofs.YtcfeehaoeaoegaaW.PrintWords Go.Proofs.YtcfeehaoeaoegaaW.PrintLast Go.Proofs.YtcfeehaoeaoegaaW.PrintMore
set_option linter.unusedVariables false
set_option linter.unusedSimpArgs false

def oddW (n : Int) : Bool := decide (n < -1 ∨ n > 1073741824)
/-- The first error of a graph and its weights. -/
def dchk (N : Int) (arcs : List S38) (w : List Int) : Int := if chk N arcs ≠ 0 then chk N arcs else if w.length ≠ arcs.length then 17 else if (w.findIdx? oddW).isSome = true then 17 else 0
def idxOf (l : List Int) (i : Nat) : Int := (((l.drop i).findIdx? oddW).map (fun j : Nat => ((i + j : Nat) : Int))).getD (-1)
theorem idxOf_succ {l : List Int} {i : Nat} (hi : i < l.length) : idxOf l i = if oddW (l.getD i 0) = true then (i : Int) else idxOf l (i + 1) := by
  unfold idxOf
  rw [List.drop_eq_getElem_cons hi, List.findIdx?_cons]
  have h1 : l.getD i 0 = l[i] := by rw [List.getD_eq_getElem?_getD, List.getElem?_eq_getElem hi]; rfl
  rw [h1]
  cases h : oddW l[i] with
  | true => simp
  | false =>
    simp only [Bool.false_eq_true, if_false, Option.map_map]
    congr 2
    funext j
    show ((i + (j + 1) : Nat) : Int) = ((i + 1 + j : Nat) : Int)
    congr 1
    omega
theorem idxOf_end {l : List Int} {i : Nat} (hi : l.length ≤ i) : idxOf l i = -1 := by
  unfold idxOf
  rw [List.drop_of_length_le hi]
  rfl
theorem idxOf_pos {l : List Int} : 0 ≤ idxOf l 0 ↔ (l.findIdx? oddW).isSome = true := by
  unfold idxOf
  rw [List.drop_zero]
  cases l.findIdx? oddW with
  | none => simp
  | some j => simp
set_option maxHeartbeats 1600000 in
set_option maxRecDepth 100000 in
theorem IndexFunc_odd {w : World} {A : Option Addr} {c : Nat} {l : List Int} (hC : Kd.C (Kd.int .i64) w A l.length l) (hl : l.length ≤ 1000000000) :
    Calls Try.prog 78 #[.slice A l.length c, .func (.func 72) #[] #[]] w fun e w' => e = .returned (.int .i64 (idxOf l 0)) ∧ Below w.heap.size w w' := by
  have HC := Aside0.mk hC
  clear hC
  go_enter Try.func78, Try.ntmps78
  go_wp2_with (fail)
  go_loopw [8] (fun i wr => ∃ j : Nat, i = .int .i64 (j : Int) ∧ j ≤ l.length ∧ Aside0 (Below w.heap.size w wr) ∧ Aside0 (idxOf l 0 = idxOf l j)) (fun i _ => l.length - (intOf i).toNat)
  case atStart => exact ⟨0, rfl, Nat.zero_le _, ⟨Below.refl _ _⟩, ⟨rfl⟩⟩
  case round =>
    obtain ⟨j, rfl, hj, HB, HI⟩ := hrel
    by_cases hjl : j < l.length
    · rcases cells_of_C (Kd.C_below HC.out HB.out) with ⟨h0, _⟩ | ⟨_, b, off, hA, hce⟩
      · omega
      first | subst hA | (injection hA with e1; injection e1 with e1 e2 _; subst e1 e2)
      have hcx := hce j hjl
      have HS := Aside0.mk (idxOf_succ hjl)
      clear hce
      generalize l.getD j 0 = x at hcx HS
      by_cases h1 : x < -1
      · have HO : Aside0 (idxOf l 0 = (j : Int)) := ⟨by rw [HI.out, HS.out, if_pos (by unfold oddW; exact decide_eq_true (.inl h1))]⟩
        go_wp2
        go_ret
        exact ⟨by rw [HO.out]; rfl, HB.out⟩
      · by_cases h2 : x > 1073741824
        · have HO : Aside0 (idxOf l 0 = (j : Int)) := ⟨by rw [HI.out, HS.out, if_pos (by unfold oddW; exact decide_eq_true (.inr h2))]⟩
          go_wp2
          go_ret
          exact ⟨by rw [HO.out]; rfl, HB.out⟩
        · have HO : Aside0 (idxOf l 0 = idxOf l (j + 1)) := ⟨by rw [HI.out, HS.out, if_neg (by unfold oddW; rw [decide_eq_true_eq]; omega)]⟩
          go_wp2
          go_roundw
          case rel => exact ⟨j + 1, by go_num, by omega, HB, HO⟩
          case measure => simp [intOf]; omega
    · have HO : Aside0 (idxOf l 0 = -1) := ⟨by rw [HI.out, idxOf_end (by omega)]⟩
      go_wp2
      go_ret
      exact ⟨by rw [HO.out]; rfl, HB.out⟩
set_option maxHeartbeats 1600000 in
set_option maxRecDepth 100000 in
theorem ContainsFunc_odd {w : World} {A : Option Addr} {c : Nat} {l : List Int} (hC : Kd.C (Kd.int .i64) w A l.length l) (hl : l.length ≤ 1000000000) :
    Calls Try.prog 73 #[.slice A l.length c, .func (.func 72) #[] #[]] w fun e w' => e = .returned (.bool (l.findIdx? oddW).isSome) ∧ Below w.heap.size w w' := by
  have HC := Aside0.mk hC
  clear hC
  go_enter Try.func73, Try.ntmps73
  go_wp2_with (fail)
  refine (IndexFunc_odd HC.out hl).mono ?_
  rintro e w1 ⟨rfl, hb⟩
  have HB := Aside0.mk hb
  have HP := Aside0.mk (idxOf_pos (l := l))
  clear hb
  have HE : Aside0 ((l.findIdx? oddW).isSome = decide (0 ≤ idxOf l 0)) := ⟨by rw [Bool.eq_iff_iff, decide_eq_true_eq]; exact HP.out.symm⟩
  clear HP
  generalize idxOf l 0 = x at HE ⊢
  go_wp2
  go_ret
  exact ⟨by rw [HE.out]; rfl, HB.out⟩
def dijkstra_Check.f (a0_0 : Int) (l0_1 : List S38) (l1 : List Int) : Option Int := if l0_1.length ≤ 1000000000 ∧ l1.length ≤ 1000000000 then some (dchk a0_0 l0_1 l1) else none
set_option maxHeartbeats 1600000 in
set_option maxRecDepth 100000 in
theorem dijkstra_Check.calls (a0_0 : Int) (A0_1 : Option Addr) (c0_1 : Nat) (l0_1 : List S38) (A1 : Option Addr) (c1 : Nat) (l1 : List Int) (r : Int) (w : World) (hr0_1 : Kd.C k38 w A0_1 l0_1.length l0_1) (hc0_1 : l0_1.length ≤ c0_1) (hr1 : Kd.C (Kd.int .i64) w A1 l1.length l1) (hc1 : l1.length ≤ c1) (h : dijkstra_Check.f a0_0 l0_1 l1 = some r) :
    Calls Try.prog 62 #[.agg #[.int .i64 a0_0, .slice A0_1 l0_1.length c0_1], .slice A1 l1.length c1] w fun e w' => e = .returned (.int .i64 r) ∧ Below w.heap.size w w' := by
  unfold dijkstra_Check.f at h
  split at h
  case isFalse => cases h
  rename_i hcond
  obtain ⟨hal, hll⟩ := hcond
  injection h with h
  have HRE := Aside0.mk h
  obtain ⟨kc, hkc⟩ := graph_Check.ev a0_0 l0_1 (by omega)
  have HKC := Aside0.mk (hkc kc (Nat.le_refl _))
  have HG := Aside0.mk hr0_1
  have HL := Aside0.mk hr1
  have HGC := Aside0.mk hc0_1
  clear hr0_1 hr1 hc0_1 hc1 hkc h
  go_enter Try.func62, Try.ntmps62
  go_upto_region 1 with (fail)
  have HBK := Aside0.mk (heap_alloc_new w (Obj.cells #[.int .i64 a0_0, .slice A0_1 l0_1.length c0_1] 24))
  have HBE : Below w.heap.size w (w.alloc (Obj.cells #[.int .i64 a0_0, .slice A0_1 l0_1.length c0_1] 24)) := (Below.refl _ _).alloc (Nat.le_refl _) _
  replace HG := Aside0.mk (Kd.C_below HG.out HBE)
  replace HL := Aside0.mk (Kd.C_below HL.out HBE)
  have HB := Aside0.mk HBE
  generalize w.alloc (Obj.cells #[.int .i64 a0_0, .slice A0_1 l0_1.length c0_1] 24) = w1 at HBK HG HL HB ⊢
  clear HBE
  have hc0 := (blk_cell HBK.out 0).trans rfl
  have hc1 := (blk_cell HBK.out 1).trans rfl
  go_wp2_with (fail)
  refine (graph_Check.calls kc a0_0 A0_1 c0_1 l0_1 _ _ HG.out HGC.out HKC.out).mono ?_
  rintro e w2 ⟨rfl, hb2⟩
  replace HBK := Aside0.mk (blk_below HBK.out hb2)
  replace HL := Aside0.mk (Kd.C_below HL.out hb2)
  replace HB := Aside0.mk (below_then HB.out (Nat.le_trans (Nat.le_refl _) HB.out.size) hb2)
  clear hb2 hc0 hc1 HKC HG HGC
  by_cases hchk : chk a0_0 l0_1 = 0
  · rw [hchk]
    have hc0 := (blk_cell HBK.out 0).trans rfl
    have hc1 := (blk_cell HBK.out 1).trans rfl
    by_cases hlen : l1.length = l0_1.length
    · have hlen2 : (l1.length : Int) = (l0_1.length : Int) := by rw [hlen]
      have HR2 : Aside0 (r = if (l1.findIdx? oddW).isSome = true then 17 else 0) := ⟨by rw [← HRE.out]; unfold dchk; rw [if_neg (fun h => h hchk), if_neg (fun h => h hlen)]⟩
      have HLX := Aside0.mk hlen
      go_wp2_with (fail)
      rw [← hlen]
      refine (ContainsFunc_odd HL.out hll).mono ?_
      rintro e w3 ⟨rfl, hb3⟩
      replace HB := Aside0.mk (below_then HB.out (Nat.le_trans (Nat.le_refl _) HB.out.size) hb3)
      clear hb3 hlen hlen2 hc0 hc1
      generalize (l1.findIdx? oddW).isSome = b at HR2 ⊢
      cases b with
      | true =>
        have HR3 : Aside0 (r = 17) := ⟨by rw [HR2.out]; rfl⟩
        go_wp2
        go_ret
        exact ⟨by rw [HR3.out]; rfl, HB.out⟩
      | false =>
        have HR3 : Aside0 (r = 0) := ⟨by rw [HR2.out]; rfl⟩
        go_wp2
        go_ret
        exact ⟨by rw [HR3.out]; rfl, HB.out⟩
    · have hlen2 : ¬ (l1.length : Int) = (l0_1.length : Int) := by omega
      have HR2 : Aside0 (r = 17) := ⟨by rw [← HRE.out]; unfold dchk; rw [if_neg (fun h => h hchk), if_pos hlen]⟩
      go_wp2
      go_ret
      exact ⟨by rw [HR2.out]; rfl, HB.out⟩
  · have HR2 : Aside0 (r = chk a0_0 l0_1) := ⟨by rw [← HRE.out]; unfold dchk; rw [if_pos hchk]⟩
    generalize chk a0_0 l0_1 = oe at HR2 hchk ⊢
    go_wp2
    go_ret
    exact ⟨by rw [HR2.out]; rfl, HB.out⟩
end Go.Proofs.Ytcfeehaoeaoegaa.Print
