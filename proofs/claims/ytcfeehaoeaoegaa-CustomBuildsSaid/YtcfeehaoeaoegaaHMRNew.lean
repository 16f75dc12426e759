/- The calls of Weights and of the reference's New. -/
import Derived.Test.YtcfeehaoeaoegaaM27
import Derived.Test.YtcfeehaoeaoegaaM28
namespace Go.Proofs.Ytcfeehaoeaoegaa.Print
open Go.RowKit Go.Proofs.YtcfeehaoeaoegaaW.PrintWords Go.Proofs.YtcfeehaoeaoegaaW.PrintLast Go.Proofs.YtcfeehaoeaoegaaW.PrintMore
set_option linter.unusedVariables false
set_option linter.unusedSimpArgs false

theorem ints_l0 (l : List Int) (hs : l.length ≤ 1000000000) : ∀ d j : Nat, j + d = l.length → Ev (fun k => mapmakerref38_Ints.l0 k l l (j : Int)) true
  | 0, j, h => by
    refine Ev.step1 fun k => ?_
    simp only [mapmakerref38_Ints.l0]
    rw [if_neg (by omega)]
  | d + 1, j, h => by
    refine Ev.step (fun k => ?_) (ints_l0 l hs d (j + 1) (by omega))
    simp only [mapmakerref38_Ints.l0]
    rw [if_pos (by omega), if_pos (by omega), if_pos (by omega), if_pos trivial, wrap_succ (by omega)]
theorem ints_ev (l : List Int) (hs : l.length ≤ 1000000000) : Ev (fun k => mapmakerref38_Ints.f k l l) true := by
  unfold mapmakerref38_Ints.f
  refine Ev.congr (fun k => if_pos rfl) ?_
  exact ints_l0 l hs l.length 0 (by omega)
theorem refchk_l0 (w : List Int) (hs : w.length ≤ 1000000000) : ∀ d j : Nat, j + d = w.length → Ev (fun k => mapmakerref38_Check.l0 k w (j : Int)) (if ((w.drop j).findIdx? oddW).isSome = true then 17 else 0)
  | 0, j, h => by
    refine Ev.step1 fun k => ?_
    simp only [mapmakerref38_Check.l0]
    rw [if_neg (by omega), List.drop_of_length_le (by omega)]
    rfl
  | d + 1, j, h => by
    have hj : j < w.length := by omega
    have ih := refchk_l0 w hs d (j + 1) (by omega)
    have hr : rd w (j : Int) = w[j] := by
      show w.getD (j : Int).toNat 0 = _
      rw [Int.toNat_natCast]
      simp [hj]
    rw [List.drop_eq_getElem_cons hj, List.findIdx?_cons]
    by_cases e : w[j] < -1 ∨ w[j] > 1073741824
    · rw [show oddW w[j] = true from decide_eq_true e]
      refine Ev.step1 fun k => ?_
      simp only [mapmakerref38_Check.l0]
      rw [if_pos (by omega), if_pos (by omega), hr]
      by_cases h1 : w[j] < -1
      · rw [if_pos h1]
        rfl
      · rw [if_neg h1, if_pos (by omega)]
        rfl
    · rw [show oddW w[j] = false from decide_eq_false e]
      simp only [Bool.false_eq_true, if_false, Option.isSome_map]
      refine Ev.step (fun k => ?_) ih
      simp only [mapmakerref38_Check.l0]
      rw [if_pos (by omega), if_pos (by omega), hr, if_neg (by omega), if_neg (by omega), wrap_succ (by omega)]
theorem refchk_ev (N : Int) (arcs : List S38) (w : List Int) (hal : arcs.length ≤ 1000000) (hs : w.length ≤ 1000000) : Ev (fun k => mapmakerref38_Check.f k N arcs w) (dchk N arcs w) := by
  unfold mapmakerref38_Check.f dchk
  refine Ev.bind (mapmakerref37_Check.ev N arcs (by omega)) ?_
  by_cases h1 : chk N arcs = 0
  · rw [if_neg (fun h => h h1)]
    refine Ev.congr (fun k => if_pos h1) ?_
    by_cases h2 : w.length = arcs.length
    · rw [if_neg (fun h => h h2)]
      refine Ev.congr (fun k => if_pos (by omega)) ?_
      have h3 := refchk_l0 w (by omega) w.length 0 (by omega)
      rw [List.drop_zero] at h3
      exact h3
    · rw [if_pos h2]
      exact Ev.id (fun k => if_neg (by omega))
  · rw [if_pos h1]
    exact Ev.id (fun k => if_neg h1)
set_option maxHeartbeats 1600000 in
set_option maxRecDepth 100000 in
theorem Metric_Weights.calls {w : World} {q p : Nat} {ws : List Int} {ar : List (List Int)} {up dn : List Int} (h : MetR w q p ws ar up dn) (hl : ws.length ≤ 1000000) :
    Calls Try.prog 48 #[.pointer (some ⟨q, 0, none⟩)] w fun e w' => ∃ v : Value, e = .returned v ∧ Kd.R (Kd.int .i64) 3 w' w.heap.size (fun _ => True) v ws ∧ Below w.heap.size w w' := by
  obtain ⟨wA, wc, aA, ac, uA, uc, dA, dc, h1, h2, h3, h4, h5⟩ := h.out
  have hcc := (blk_cell h1 1).trans rfl
  have HC := Aside0.mk h2.1
  have HCC := Aside0.mk h2.2
  clear h h1 h2 h3 h4 h5
  go_enter Try.func48, Try.ntmps48
  go_wp2_with (fail)
  refine (custom_copied.calls wA wc ws ws w HC.out HCC.out (copied_f hl)).mono ?_
  rintro e w1 ⟨v, rfl, hr, hb⟩
  have HR := Aside0.mk hr
  have HB := Aside0.mk hb
  clear hr hb
  obtain ⟨A, c, rfl⟩ := Kd.R_slice HR.out
  go_wp2
  go_ret
  exact ⟨_, rfl, HR.out, HB.out⟩
set_option maxHeartbeats 3200000 in
set_option maxRecDepth 100000 in
theorem ref41_New.calls {w : World} {N : Int} {gA : Option Addr} {gc : Nat} {arcs : List S38} {lA : Option Addr} {ll lc : Nat} {wA : Option Addr} {wc : Nat} {ws : List Int} (hg : Kd.C k38 w gA arcs.length arcs) (hgc : arcs.length ≤ gc) (hw : Kd.C (Kd.int .i64) w wA ws.length ws) (hwc : ws.length ≤ wc)
    (hal : arcs.length ≤ 1000000) (hwl : ws.length ≤ 1000000) :
    Calls Try.prog 41 #[.agg #[.int .i64 N, .slice gA arcs.length gc], .slice lA ll lc, .slice wA ws.length wc] w fun e w' => Below w.heap.size w w' ∧
      ((dchk N arcs ws = 0 ∧ e = .returned (.tuple #[.agg #[.bool false, .int .i64 N, .slice gA arcs.length gc, .slice lA ll lc, .slice wA ws.length wc], .int .i64 0])) ∨
       (dchk N arcs ws ≠ 0 ∧ e = .returned (.tuple #[.agg #[.bool true, .int .i64 0, .slice none 0 0, .slice none 0 0, .slice none 0 0], .int .i64 (dchk N arcs ws)]))) := by
  obtain ⟨kc, hkc⟩ := refchk_ev N arcs ws hal hwl
  have HKC := Aside0.mk (hkc kc (Nat.le_refl _))
  have HG := Aside0.mk hg
  have HGC := Aside0.mk hgc
  have HW := Aside0.mk hw
  have HWC := Aside0.mk hwc
  clear hkc hg hgc hw hwc
  go_enter Try.func41, Try.ntmps41
  go_wp2_with (fail)
  have hb1 : Below w.heap.size w (w.alloc (Obj.cells #[.int .i64 N, .slice gA arcs.length gc] 24)) := (Below.refl _ _).alloc (Nat.le_refl _) _
  have s1 : (w.alloc (Obj.cells #[.int .i64 N, .slice gA arcs.length gc] 24)).heap.size = w.heap.size + 1 := World.size_alloc ..
  have HK0 := Aside0.mk (heap_alloc_new w (Obj.cells #[.int .i64 N, .slice gA arcs.length gc] 24))
  replace HG := Aside0.mk (Kd.C_below HG.out hb1)
  replace HW := Aside0.mk (Kd.C_below HW.out hb1)
  have HB := Aside0.mk hb1
  clear hb1
  generalize w.alloc (Obj.cells #[.int .i64 N, .slice gA arcs.length gc] 24) = w1 at HG HW HB HK0 s1 ⊢
  have hb1 : Below w1.heap.size w1 (w1.alloc (Obj.cells #[.bool false, .int .i64 0, .slice none 0 0, .slice none 0 0, .slice none 0 0] 67)) := (Below.refl _ _).alloc (Nat.le_refl _) _
  have HBK := Aside0.mk (heap_alloc_new w1 (Obj.cells #[.bool false, .int .i64 0, .slice none 0 0, .slice none 0 0, .slice none 0 0] 67))
  rw [s1] at HBK
  replace HK0 := Aside0.mk (blk_below HK0.out hb1)
  replace HG := Aside0.mk (Kd.C_below HG.out hb1)
  replace HW := Aside0.mk (Kd.C_below HW.out hb1)
  replace HB := Aside0.mk (below_then HB.out HB.out.size hb1)
  clear hb1 s1
  generalize w1.alloc (Obj.cells #[.bool false, .int .i64 0, .slice none 0 0, .slice none 0 0, .slice none 0 0] 67) = w2 at HG HW HB HBK HK0 ⊢
  refine (mapmakerref38_Check.calls kc N gA gc arcs wA wc ws (dchk N arcs ws) w2 HG.out HGC.out HW.out HWC.out HKC.out).mono ?_
  rintro e w3 ⟨rfl, hb3⟩
  replace HBK := Aside0.mk (blk_below HBK.out hb3)
  replace HK0 := Aside0.mk (blk_below HK0.out hb3)
  replace HB := Aside0.mk (below_then HB.out HB.out.size hb3)
  clear hb3
  have hc0 := (blk_cell HK0.out 0).trans rfl
  have hc1 := (blk_cell HK0.out 1).trans rfl
  have k0 := (blk_cell HBK.out 0).trans rfl
  have k1 := (blk_cell HBK.out 1).trans rfl
  have k2 := (blk_cell HBK.out 2).trans rfl
  have k3 := (blk_cell HBK.out 3).trans rfl
  have k4 := (blk_cell HBK.out 4).trans rfl
  have f0 : w3.frozen? ⟨w.heap.size + 1, 0, none⟩ = false := blk_frozen HBK.out 0
  have f1 : w3.frozen? ⟨w.heap.size + 1, 1, none⟩ = false := blk_frozen HBK.out 1
  have f2 : w3.frozen? ⟨w.heap.size + 1, 2, none⟩ = false := blk_frozen HBK.out 2
  have f3 : w3.frozen? ⟨w.heap.size + 1, 3, none⟩ = false := blk_frozen HBK.out 3
  have f4 : w3.frozen? ⟨w.heap.size + 1, 4, none⟩ = false := blk_frozen HBK.out 4
  have hlo : w.heap.size ≤ w.heap.size + 1 := by omega
  by_cases hd : dchk N arcs ws = 0
  · have HD := Aside0.mk hd
    rw [hd]
    clear hd
    go_wp2_with (fail)
    have HF : Aside0 ((((((w3.setCell ⟨w.heap.size + 1, 0, none⟩ (.bool false)).setCell ⟨w.heap.size + 1, 1, none⟩ (.int .i64 N)).setCell ⟨w.heap.size + 1, 2, none⟩ (.slice gA arcs.length gc)).setCell ⟨w.heap.size + 1, 3, none⟩ (.slice lA ll lc)).setCell ⟨w.heap.size + 1, 4, none⟩ (.slice wA ws.length wc)).heap[w.heap.size + 1]? = some (.cells #[.bool false, .int .i64 N, .slice gA arcs.length gc, .slice lA ll lc, .slice wA ws.length wc] 67 (0, 0))) := ⟨by simp [World.setCell, Array.getElem?_modify, HBK.out]⟩
    have HW5 : Aside0 (Below w.heap.size w (((((w3.setCell ⟨w.heap.size + 1, 0, none⟩ (.bool false)).setCell ⟨w.heap.size + 1, 1, none⟩ (.int .i64 N)).setCell ⟨w.heap.size + 1, 2, none⟩ (.slice gA arcs.length gc)).setCell ⟨w.heap.size + 1, 3, none⟩ (.slice lA ll lc)).setCell ⟨w.heap.size + 1, 4, none⟩ (.slice wA ws.length wc))) := ⟨hput (hput (hput (hput (hput HB.out _ _ hlo) _ _ hlo) _ _ hlo) _ _ hlo) _ _ hlo⟩
    refine bodyPost_ret (results_ct rfl _ _ (w.heap.size + 1) 67 #[.bool false, .int .i64 N, .slice gA arcs.length gc, .slice lA ll lc, .slice wA ws.length wc] (0, 0) _ rfl HF.out Try.underlying67 rfl (by kernel_rfl)) rfl ?_
    exact ⟨HW5.out, .inl ⟨HD.out, rfl⟩⟩
  · obtain ⟨r, HR⟩ : ∃ r, Aside0 (dchk N arcs ws = r) := ⟨_, ⟨rfl⟩⟩
    have HD := Aside0.mk hd
    rw [HR.out] at hd ⊢
    go_wp2_with (fail)
    have HF : Aside0 ((((((w3.setCell ⟨w.heap.size + 1, 0, none⟩ (.bool true)).setCell ⟨w.heap.size + 1, 1, none⟩ (.int .i64 0)).setCell ⟨w.heap.size + 1, 2, none⟩ (.slice none 0 0)).setCell ⟨w.heap.size + 1, 3, none⟩ (.slice none 0 0)).setCell ⟨w.heap.size + 1, 4, none⟩ (.slice none 0 0)).heap[w.heap.size + 1]? = some (.cells #[.bool true, .int .i64 0, .slice none 0 0, .slice none 0 0, .slice none 0 0] 67 (0, 0))) := ⟨by simp [World.setCell, Array.getElem?_modify, HBK.out]⟩
    have HW5 : Aside0 (Below w.heap.size w (((((w3.setCell ⟨w.heap.size + 1, 0, none⟩ (.bool true)).setCell ⟨w.heap.size + 1, 1, none⟩ (.int .i64 0)).setCell ⟨w.heap.size + 1, 2, none⟩ (.slice none 0 0)).setCell ⟨w.heap.size + 1, 3, none⟩ (.slice none 0 0)).setCell ⟨w.heap.size + 1, 4, none⟩ (.slice none 0 0))) := ⟨hput (hput (hput (hput (hput HB.out _ _ hlo) _ _ hlo) _ _ hlo) _ _ hlo) _ _ hlo⟩
    refine bodyPost_ret (results_ct rfl _ _ (w.heap.size + 1) 67 #[.bool true, .int .i64 0, .slice none 0 0, .slice none 0 0, .slice none 0 0] (0, 0) _ rfl HF.out Try.underlying67 rfl (by kernel_rfl)) rfl ?_
    exact ⟨HW5.out, .inr ⟨HD.out, by rw [HR.out]; rfl⟩⟩
theorem few41 (N : Int) (arcs : List S38) (ws : List Int) : ∃ fb, mapmakerlaw41_few.f N arcs ws = some fb ∧ (fb = true → N ≤ 10 ∧ arcs.length ≤ 24 ∧ ws.length ≤ 60) := by
  unfold mapmakerlaw41_few.f
  by_cases h1 : N ≤ 10
  · by_cases h2 : (arcs.length : Int) ≤ 24
    · refine ⟨_, by rw [if_pos h1, if_pos h2], fun h => ?_⟩
      rw [decide_eq_true_eq] at h
      omega
    · exact ⟨_, by rw [if_pos h1, if_neg h2], fun h => by cases h⟩
  · exact ⟨_, by rw [if_neg h1], fun h => by cases h⟩
end Go.Proofs.Ytcfeehaoeaoegaa.Print
