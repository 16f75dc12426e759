import Derived.Test.YtfnophaiamkmpaaM19
namespace Go.Proofs.Ytfnophaiamkmpaa.Print
open Go.RowKit Go.Proofs.YtfnophaiamkmpaaW.PrintWords Go.Proofs.YtfnophaiamkmpaaW.PrintLast Go.Proofs.YtfnophaiamkmpaaW.PrintMore
set_option linter.unusedVariables false
set_option linter.unusedSimpArgs false
theorem refchk_l0 (w : List Int) (hs : w.length ≤ 1000000000) : ∀ d j : Nat, j + d = w.length → Ev (fun k => mapmakerref38_Check.l0 k w (j : Int)) (if ((w.drop j).findIdx? oddW).isSome = true then 17 else 0)
 | 0, j, h => by
  refine Ev.step1 fun k => ?_
  simp only [mapmakerref38_Check.l0]
  rw [if_neg (by omega), List.drop_of_length_le (by omega)]
  rfl
 | d + 1, j, h => by
  have hj : j < w.length := by omega
  have ih := refchk_l0 w hs d (j + 1) (by omega)
  have hr : rd w (j : Int) = w[j] := by
   show w.getD (j : Int).toNat 0 = _
   rw [Int.toNat_natCast]
   simp [hj]
  rw [List.drop_eq_getElem_cons hj, List.findIdx?_cons]
  by_cases e : w[j] < -1 ∨ w[j] > 1073741824
  ·rw [show oddW w[j] = true from decide_eq_true e]
   refine Ev.step1 fun k => ?_
   simp only [mapmakerref38_Check.l0]
   rw [if_pos (by omega), if_pos (by omega), hr]
   by_cases h1 : w[j] < -1
   ·rw [if_pos h1]
    rfl
   ·rw [if_neg h1, if_pos (by omega)]
    rfl
  ·rw [show oddW w[j] = false from decide_eq_false e]
   simp only [Bool.false_eq_true, if_false, Option.isSome_map]
   refine Ev.step (fun k => ?_) ih
   simp only [mapmakerref38_Check.l0]
   rw [if_pos (by omega), if_pos (by omega), hr, if_neg (by omega), if_neg (by omega), wrap_succ (by omega)]
theorem refchk_ev (N : Int) (arcs : List S58) (w : List Int) (hal : arcs.length ≤ 1000000) (hs : w.length ≤ 1000000) : Ev (fun k => mapmakerref38_Check.f k N arcs w) (dchk N arcs w) := by
 unfold mapmakerref38_Check.f dchk
 refine Ev.bind (mapmakerref37_Check.ev N arcs (by omega)) ?_
 by_cases h1 : chk N arcs = 0
 ·rw [if_neg (fun h => h h1)]
  refine Ev.congr (fun k => if_pos h1) ?_
  by_cases h2 : w.length = arcs.length
  ·rw [if_neg (fun h => h h2)]
   refine Ev.congr (fun k => if_pos (by omega)) ?_
   have h3 := refchk_l0 w (by omega) w.length 0 (by omega)
   rw [List.drop_zero] at h3
   exact h3
  ·rw [if_pos h2]
   exact Ev.id (fun k => if_neg (by omega))
 ·rw [if_pos h1]
  exact Ev.id (fun k => if_neg h1)
set_option maxHeartbeats 1600000 in
set_option maxRecDepth 100000 in
theorem Metric_Weights.calls {w : World} {q p : Nat} {ws : List Int} {ar : List (List Int)} {up dn : List Int} (h : MetR w q p ws ar up dn) (hl : ws.length ≤ 1000000) :
  Calls Try.prog 80 #[.pointer (some ⟨q, 0, none⟩)] w fun e w' => ∃ v : Value, e = .returned v ∧ Kd.R (Kd.int .i64) 3 w' w.heap.size (fun _ => True) v ws ∧ Below w.heap.size w w' := by
 obtain ⟨wA, wc, aA, ac, uA, uc, dA, dc, h1, h2, h3, h4, h5⟩ := h.out
 have hcc := (blk_cell h1 1).trans rfl
 have HC := Aside0.mk h2.1
 have HCC := Aside0.mk h2.2
 clear h h1 h2 h3 h4 h5
 go_enter Try.func80, Try.ntmps80
 go_wp2_with (fail)
 refine (custom_copied.calls wA wc ws ws w HC.out HCC.out (copied_f hl)).mono ?_
 rintro e w1 ⟨v, rfl, hr, hb⟩
 have HR := Aside0.mk hr
 have HB := Aside0.mk hb
 clear hr hb
 obtain ⟨A, c, rfl⟩ := Kd.R_slice HR.out
 go_wp2
 go_ret
 exact ⟨_, rfl, HR.out, HB.out⟩
end Go.Proofs.Ytfnophaiamkmpaa.Print
