/- Several texts of this claim in one: HMRNew, HMSame, HMPerm, HMMark. -/
import Derived.Test.YtcfeehaoeaoegaaM27
import Derived.Test.YtcfeehaoeaoegaaM28
namespace Go.Proofs.Ytcfeehaoeaoegaa.Print
open Go.RowKit Go.Proofs.YtcfeehaoeaoegaaW.PrintWords Go.Proofs.YtcfeehaoeaoegaaW.PrintLast Go.Proofs.YtcfeehaoeaoegaaW.PrintMore
set_option linter.unusedVariables false
set_option linter.unusedSimpArgs false

theorem ints_l0 (l : List Int) (hs : l.length ≤ 1000000000) : ∀ d j : Nat, j + d = l.length → Ev (fun k => mapmakerref38_Ints.l0 k l l (j : Int)) true
 | 0, j, h => by
  refine Ev.step1 fun k => ?_
  simp only [mapmakerref38_Ints.l0]
  rw [if_neg (by omega)]
 | d + 1, j, h => by
  refine Ev.step (fun k => ?_) (ints_l0 l hs d (j + 1) (by omega))
  simp only [mapmakerref38_Ints.l0]
  rw [if_pos (by omega), if_pos (by omega), if_pos (by omega), if_pos trivial, wrap_succ (by omega)]
theorem ints_ev (l : List Int) (hs : l.length ≤ 1000000000) : Ev (fun k => mapmakerref38_Ints.f k l l) true := by
 unfold mapmakerref38_Ints.f
 refine Ev.congr (fun k => if_pos rfl) ?_
 exact ints_l0 l hs l.length 0 (by omega)
theorem refchk_l0 (w : List Int) (hs : w.length ≤ 1000000000) : ∀ d j : Nat, j + d = w.length → Ev (fun k => mapmakerref38_Check.l0 k w (j : Int)) (if ((w.drop j).findIdx? oddW).isSome = true then 17 else 0)
 | 0, j, h => by
  refine Ev.step1 fun k => ?_
  simp only [mapmakerref38_Check.l0]
  rw [if_neg (by omega), List.drop_of_length_le (by omega)]
  rfl
 | d + 1, j, h => by
  have hj : j < w.length := by omega
  have ih := refchk_l0 w hs d (j + 1) (by omega)
  have hr : rd w (j : Int) = w[j] := by
   show w.getD (j : Int).toNat 0 = _
   rw [Int.toNat_natCast]
   simp [hj]
  rw [List.drop_eq_getElem_cons hj, List.findIdx?_cons]
  by_cases e : w[j] < -1 ∨ w[j] > 1073741824
  ·rw [show oddW w[j] = true from decide_eq_true e]
   refine Ev.step1 fun k => ?_
   simp only [mapmakerref38_Check.l0]
   rw [if_pos (by omega), if_pos (by omega), hr]
   by_cases h1 : w[j] < -1
   ·rw [if_pos h1]
    rfl
   ·rw [if_neg h1, if_pos (by omega)]
    rfl
  ·rw [show oddW w[j] = false from decide_eq_false e]
   simp only [Bool.false_eq_true, if_false, Option.isSome_map]
   refine Ev.step (fun k => ?_) ih
   simp only [mapmakerref38_Check.l0]
   rw [if_pos (by omega), if_pos (by omega), hr, if_neg (by omega), if_neg (by omega), wrap_succ (by omega)]
theorem refchk_ev (N : Int) (arcs : List S38) (w : List Int) (hal : arcs.length ≤ 1000000) (hs : w.length ≤ 1000000) : Ev (fun k => mapmakerref38_Check.f k N arcs w) (dchk N arcs w) := by
 unfold mapmakerref38_Check.f dchk
 refine Ev.bind (mapmakerref37_Check.ev N arcs (by omega)) ?_
 by_cases h1 : chk N arcs = 0
 ·rw [if_neg (fun h => h h1)]
  refine Ev.congr (fun k => if_pos h1) ?_
  by_cases h2 : w.length = arcs.length
  ·rw [if_neg (fun h => h h2)]
   refine Ev.congr (fun k => if_pos (by omega)) ?_
   have h3 := refchk_l0 w (by omega) w.length 0 (by omega)
   rw [List.drop_zero] at h3
   exact h3
  ·rw [if_pos h2]
   exact Ev.id (fun k => if_neg (by omega))
 ·rw [if_pos h1]
  exact Ev.id (fun k => if_neg h1)
set_option maxHeartbeats 1600000 in
set_option maxRecDepth 100000 in
theorem Metric_Weights.calls {w : World} {q p : Nat} {ws : List Int} {ar : List (List Int)} {up dn : List Int} (h : MetR w q p ws ar up dn) (hl : ws.length ≤ 1000000) :
  Calls Try.prog 48 #[.pointer (some ⟨q, 0, none⟩)] w fun e w' => ∃ v : Value, e = .returned v ∧ Kd.R (Kd.int .i64) 3 w' w.heap.size (fun _ => True) v ws ∧ Below w.heap.size w w' := by
 obtain ⟨wA, wc, aA, ac, uA, uc, dA, dc, h1, h2, h3, h4, h5⟩ := h.out
 have hcc := (blk_cell h1 1).trans rfl
 have HC := Aside0.mk h2.1
 have HCC := Aside0.mk h2.2
 clear h h1 h2 h3 h4 h5
 go_enter Try.func48, Try.ntmps48
 go_wp2_with (fail)
 refine (custom_copied.calls wA wc ws ws w HC.out HCC.out (copied_f hl)).mono ?_
 rintro e w1 ⟨v, rfl, hr, hb⟩
 have HR := Aside0.mk hr
 have HB := Aside0.mk hb
 clear hr hb
 obtain ⟨A, c, rfl⟩ := Kd.R_slice HR.out
 go_wp2
 go_ret
 exact ⟨_, rfl, HR.out, HB.out⟩
set_option maxHeartbeats 3200000 in
set_option maxRecDepth 100000 in
theorem ref41_New.calls {w : World} {N : Int} {gA : Option Addr} {gc : Nat} {arcs : List S38} {lA : Option Addr} {ll lc : Nat} {wA : Option Addr} {wc : Nat} {ws : List Int} (hg : Kd.C k38 w gA arcs.length arcs) (hgc : arcs.length ≤ gc) (hw : Kd.C (Kd.int .i64) w wA ws.length ws) (hwc : ws.length ≤ wc)
  (hal : arcs.length ≤ 1000000) (hwl : ws.length ≤ 1000000) :
  Calls Try.prog 41 #[.agg #[.int .i64 N, .slice gA arcs.length gc], .slice lA ll lc, .slice wA ws.length wc] w fun e w' => Below w.heap.size w w' ∧
   ((dchk N arcs ws = 0 ∧ e = .returned (.tuple #[.agg #[.bool false, .int .i64 N, .slice gA arcs.length gc, .slice lA ll lc, .slice wA ws.length wc], .int .i64 0])) ∨
    (dchk N arcs ws ≠ 0 ∧ e = .returned (.tuple #[.agg #[.bool true, .int .i64 0, .slice none 0 0, .slice none 0 0, .slice none 0 0], .int .i64 (dchk N arcs ws)]))) := by
 obtain ⟨kc, hkc⟩ := refchk_ev N arcs ws hal hwl
 have HKC := Aside0.mk (hkc kc (Nat.le_refl _))
 have HG := Aside0.mk hg
 have HGC := Aside0.mk hgc
 have HW := Aside0.mk hw
 have HWC := Aside0.mk hwc
 clear hkc hg hgc hw hwc
 go_enter Try.func41, Try.ntmps41
 go_wp2_with (fail)
 have hb1 : Below w.heap.size w (w.alloc (Obj.cells #[.int .i64 N, .slice gA arcs.length gc] 24)) := (Below.refl _ _).alloc (Nat.le_refl _) _
 have s1 : (w.alloc (Obj.cells #[.int .i64 N, .slice gA arcs.length gc] 24)).heap.size = w.heap.size + 1 := World.size_alloc ..
 have HK0 := Aside0.mk (heap_alloc_new w (Obj.cells #[.int .i64 N, .slice gA arcs.length gc] 24))
 replace HG := Aside0.mk (Kd.C_below HG.out hb1)
 replace HW := Aside0.mk (Kd.C_below HW.out hb1)
 have HB := Aside0.mk hb1
 clear hb1
 generalize w.alloc (Obj.cells #[.int .i64 N, .slice gA arcs.length gc] 24) = w1 at HG HW HB HK0 s1 ⊢
 have hb1 : Below w1.heap.size w1 (w1.alloc (Obj.cells #[.bool false, .int .i64 0, .slice none 0 0, .slice none 0 0, .slice none 0 0] 67)) := (Below.refl _ _).alloc (Nat.le_refl _) _
 have HBK := Aside0.mk (heap_alloc_new w1 (Obj.cells #[.bool false, .int .i64 0, .slice none 0 0, .slice none 0 0, .slice none 0 0] 67))
 rw [s1] at HBK
 replace HK0 := Aside0.mk (blk_below HK0.out hb1)
 replace HG := Aside0.mk (Kd.C_below HG.out hb1)
 replace HW := Aside0.mk (Kd.C_below HW.out hb1)
 replace HB := Aside0.mk (below_then HB.out HB.out.size hb1)
 clear hb1 s1
 generalize w1.alloc (Obj.cells #[.bool false, .int .i64 0, .slice none 0 0, .slice none 0 0, .slice none 0 0] 67) = w2 at HG HW HB HBK HK0 ⊢
 refine (mapmakerref38_Check.calls kc N gA gc arcs wA wc ws (dchk N arcs ws) w2 HG.out HGC.out HW.out HWC.out HKC.out).mono ?_
 rintro e w3 ⟨rfl, hb3⟩
 replace HBK := Aside0.mk (blk_below HBK.out hb3)
 replace HK0 := Aside0.mk (blk_below HK0.out hb3)
 replace HB := Aside0.mk (below_then HB.out HB.out.size hb3)
 clear hb3
 have hc0 := (blk_cell HK0.out 0).trans rfl
 have hc1 := (blk_cell HK0.out 1).trans rfl
 have k0 := (blk_cell HBK.out 0).trans rfl
 have k1 := (blk_cell HBK.out 1).trans rfl
 have k2 := (blk_cell HBK.out 2).trans rfl
 have k3 := (blk_cell HBK.out 3).trans rfl
 have k4 := (blk_cell HBK.out 4).trans rfl
 have f0 : w3.frozen? ⟨w.heap.size + 1, 0, none⟩ = false := blk_frozen HBK.out 0
 have f1 : w3.frozen? ⟨w.heap.size + 1, 1, none⟩ = false := blk_frozen HBK.out 1
 have f2 : w3.frozen? ⟨w.heap.size + 1, 2, none⟩ = false := blk_frozen HBK.out 2
 have f3 : w3.frozen? ⟨w.heap.size + 1, 3, none⟩ = false := blk_frozen HBK.out 3
 have f4 : w3.frozen? ⟨w.heap.size + 1, 4, none⟩ = false := blk_frozen HBK.out 4
 have hlo : w.heap.size ≤ w.heap.size + 1 := by omega
 by_cases hd : dchk N arcs ws = 0
 ·have HD := Aside0.mk hd
  rw [hd]
  clear hd
  go_wp2_with (fail)
  have HF : Aside0 ((((((w3.setCell ⟨w.heap.size + 1, 0, none⟩ (.bool false)).setCell ⟨w.heap.size + 1, 1, none⟩ (.int .i64 N)).setCell ⟨w.heap.size + 1, 2, none⟩ (.slice gA arcs.length gc)).setCell ⟨w.heap.size + 1, 3, none⟩ (.slice lA ll lc)).setCell ⟨w.heap.size + 1, 4, none⟩ (.slice wA ws.length wc)).heap[w.heap.size + 1]? = some (.cells #[.bool false, .int .i64 N, .slice gA arcs.length gc, .slice lA ll lc, .slice wA ws.length wc] 67 (0, 0))) := ⟨by simp [World.setCell, Array.getElem?_modify, HBK.out]⟩
  have HW5 : Aside0 (Below w.heap.size w (((((w3.setCell ⟨w.heap.size + 1, 0, none⟩ (.bool false)).setCell ⟨w.heap.size + 1, 1, none⟩ (.int .i64 N)).setCell ⟨w.heap.size + 1, 2, none⟩ (.slice gA arcs.length gc)).setCell ⟨w.heap.size + 1, 3, none⟩ (.slice lA ll lc)).setCell ⟨w.heap.size + 1, 4, none⟩ (.slice wA ws.length wc))) := ⟨hput (hput (hput (hput (hput HB.out _ _ hlo) _ _ hlo) _ _ hlo) _ _ hlo) _ _ hlo⟩
  refine bodyPost_ret (results_ct rfl _ _ (w.heap.size + 1) 67 #[.bool false, .int .i64 N, .slice gA arcs.length gc, .slice lA ll lc, .slice wA ws.length wc] (0, 0) _ rfl HF.out Try.underlying67 rfl (by kernel_rfl)) rfl ?_
  exact ⟨HW5.out, .inl ⟨HD.out, rfl⟩⟩
 ·obtain ⟨r, HR⟩ : ∃ r, Aside0 (dchk N arcs ws = r) := ⟨_, ⟨rfl⟩⟩
  have HD := Aside0.mk hd
  rw [HR.out] at hd ⊢
  go_wp2_with (fail)
  have HF : Aside0 ((((((w3.setCell ⟨w.heap.size + 1, 0, none⟩ (.bool true)).setCell ⟨w.heap.size + 1, 1, none⟩ (.int .i64 0)).setCell ⟨w.heap.size + 1, 2, none⟩ (.slice none 0 0)).setCell ⟨w.heap.size + 1, 3, none⟩ (.slice none 0 0)).setCell ⟨w.heap.size + 1, 4, none⟩ (.slice none 0 0)).heap[w.heap.size + 1]? = some (.cells #[.bool true, .int .i64 0, .slice none 0 0, .slice none 0 0, .slice none 0 0] 67 (0, 0))) := ⟨by simp [World.setCell, Array.getElem?_modify, HBK.out]⟩
  have HW5 : Aside0 (Below w.heap.size w (((((w3.setCell ⟨w.heap.size + 1, 0, none⟩ (.bool true)).setCell ⟨w.heap.size + 1, 1, none⟩ (.int .i64 0)).setCell ⟨w.heap.size + 1, 2, none⟩ (.slice none 0 0)).setCell ⟨w.heap.size + 1, 3, none⟩ (.slice none 0 0)).setCell ⟨w.heap.size + 1, 4, none⟩ (.slice none 0 0))) := ⟨hput (hput (hput (hput (hput HB.out _ _ hlo) _ _ hlo) _ _ hlo) _ _ hlo) _ _ hlo⟩
  refine bodyPost_ret (results_ct rfl _ _ (w.heap.size + 1) 67 #[.bool true, .int .i64 0, .slice none 0 0, .slice none 0 0, .slice none 0 0] (0, 0) _ rfl HF.out Try.underlying67 rfl (by kernel_rfl)) rfl ?_
  exact ⟨HW5.out, .inr ⟨HD.out, by rw [HR.out]; rfl⟩⟩
theorem few41 (N : Int) (arcs : List S38) (ws : List Int) : ∃ fb, mapmakerlaw41_few.f N arcs ws = some fb ∧ (fb = true → N ≤ 10 ∧ arcs.length ≤ 24 ∧ ws.length ≤ 60) := by
 unfold mapmakerlaw41_few.f
 by_cases h1 : N ≤ 10
 ·by_cases h2 : (arcs.length : Int) ≤ 24
  ·refine ⟨_, by rw [if_pos h1, if_pos h2], fun h => ?_⟩
   rw [decide_eq_true_eq] at h
   omega
  ·exact ⟨_, by rw [if_pos h1, if_neg h2], fun h => by cases h⟩
 ·exact ⟨_, by rw [if_neg h1], fun h => by cases h⟩
end Go.Proofs.Ytcfeehaoeaoegaa.Print
namespace Go.Proofs.Ytcfeehaoeaoegaa.Print
open Go.RowKit Go.Proofs.YtcfeehaoeaoegaaW.PrintWords Go.Proofs.YtcfeehaoeaoegaaW.PrintLast Go.Proofs.YtcfeehaoeaoegaaW.PrintMore
set_option linter.unusedVariables false
set_option linter.unusedSimpArgs false

theorem sideS_out {l : List Int} {e : Int} (h : ¬ (0 ≤ e ∧ e < (l.length : Int))) : sideS l e = mInf := if_neg h
theorem sideS_at {l : List Int} {j : Nat} (h : j < l.length) : sideS l (j : Int) = l.getD j 0 := by
 unfold sideS
 rw [if_pos (by omega), Int.toNat_natCast]
set_option maxHeartbeats 6400000 in
set_option maxRecDepth 100000 in
theorem law41_same.calls {w : World} {q p n : Nat} {arcs : List S38} {L ws : List Int} {gA : Option Addr} {gc : Nat} {lA : Option Addr} {lc : Nat} {wA : Option Addr} {wc : Nat} (hk : Hk n arcs L) (hn : n ≤ 1000) (hal : arcs.length ≤ 1000000) (hwl : ws.length = arcs.length) (hLl : L.length ≤ 1000000)
  (hM : MetH w q p n arcs L ws) (hg : Kd.C k38 w gA arcs.length arcs) (hgc : arcs.length ≤ gc) (hl : Kd.C (Kd.int .i64) w lA L.length L) (hlc : L.length ≤ lc) (hw : Kd.C (Kd.int .i64) w wA ws.length ws) (hwc : ws.length ≤ wc) :
  Calls Try.prog 42 #[.pointer (some ⟨q, 0, none⟩), .agg #[.bool false, .int .i64 (n : Int), .slice gA arcs.length gc, .slice lA L.length lc, .slice wA ws.length wc]] w fun e w' => e = .returned (.bool true) ∧ Below w.heap.size w w' := by
 obtain ⟨ks, hks⟩ := hk.sides_ev false ws hn hal hwl hLl
 obtain ⟨ki, hki⟩ := ints_ev ws (by omega)
 have hsl := sdS_len n arcs L ws
 have hsh := hk.short hn
 obtain ⟨UD, HUD⟩ : ∃ x, Aside0 (sdS n arcs L ws = x) := ⟨_, ⟨rfl⟩⟩
 obtain ⟨U, D⟩ := UD
 rw [HUD.out] at hsl
 dsimp only at hsl
 have hks2 := hks ks (Nat.le_refl _)
 rw [HUD.out] at hks2
 have HKS := Aside0.mk hks2
 have HKI := Aside0.mk (hki ki (Nat.le_refl _))
 have hul : U.length ≤ 1000000 := by omega
 have hdl : D.length = U.length := by omega
 have HK := Aside0.mk hk
 have HM := Aside0.mk hM
 have HG := Aside0.mk hg
 have HGC := Aside0.mk hgc
 have HL := Aside0.mk hl
 have HLC := Aside0.mk hlc
 have HW := Aside0.mk hw
 have HWC := Aside0.mk hwc
 have hwb : ws.length ≤ 1000000 := by omega
 have HDL := Aside0.mk hdl
 clear hks hki hks2 hsl hsh hk hM hg hgc hl hlc hw hwc hwl hdl
 go_enter Try.func42, Try.ntmps42
 go_wp2_with (fail)
 have hb1 : Below w.heap.size w (w.alloc (Obj.cells #[.bool false, .int .i64 (n : Int), .slice gA arcs.length gc, .slice lA L.length lc, .slice wA ws.length wc] 67)) := (Below.refl _ _).alloc (Nat.le_refl _) _
 have HBK := Aside0.mk (heap_alloc_new w (Obj.cells #[.bool false, .int .i64 (n : Int), .slice gA arcs.length gc, .slice lA L.length lc, .slice wA ws.length wc] 67))
 have HB := Aside0.mk hb1
 replace HG := Aside0.mk (Kd.C_below HG.out hb1)
 replace HL := Aside0.mk (Kd.C_below HL.out hb1)
 replace HW := Aside0.mk (Kd.C_below HW.out hb1)
 replace HM := Aside0.mk (HM.out.below hb1)
 clear hb1
 generalize w.alloc (Obj.cells #[.bool false, .int .i64 (n : Int), .slice gA arcs.length gc, .slice lA L.length lc, .slice wA ws.length wc] 67) = w1 at HBK HB HG HL HW HM ⊢
 refine (mapmakerref41_Sides.calls ks false (n : Int) gA gc arcs lA lc L wA wc ws U D w1 HG.out HGC.out HL.out HLC.out HW.out HWC.out HKS.out).mono ?_
 rintro e w2 ⟨v0, v1, rfl, hr0, hr1, hb2⟩
 obtain ⟨uA, uc, rfl, huc, huC⟩ := Kd.R_reads hr0
 obtain ⟨dA, dc, rfl, hdc, hdC⟩ := Kd.R_reads hr1
 have HU := Aside0.mk huC
 have HD := Aside0.mk hdC
 replace HW := Aside0.mk (Kd.C_below HW.out hb2)
 replace HBK := Aside0.mk (blk_below HBK.out hb2)
 replace HB := Aside0.mk (below_then HB.out HB.out.size hb2)
 replace HM := Aside0.mk (HM.out.below hb2)
 clear hr0 hr1 hb2 huc hdc huC hdC HG HL
 have hc4 := (blk_cell HBK.out 4).trans rfl
 go_upto_region 2 with (fail)
 refine s_ (fun w' => w'.cell? ⟨w.heap.size, 4, none⟩ = some (.slice wA ws.length wc)) [] hc4 (fun hHeld => ?_)
 replace HM := Aside0.mk (HM.out.below (below_drew (Below.refl _ _)))
 replace HW := Aside0.mk (Kd.C_below HW.out (below_drew (Below.refl _ _)))
 replace HU := Aside0.mk (Kd.C_below HU.out (below_drew (Below.refl _ _)))
 replace HD := Aside0.mk (Kd.C_below HD.out (below_drew (Below.refl _ _)))
 replace HB := Aside0.mk (below_then HB.out HB.out.size (below_drew (Below.refl _ _)))
 generalize w2.drew = wd at HM HW HU HD HB hHeld ⊢
 refine p_ 0 13 ?_
 refine p_ 2 15 ?_
 refine t1_ 3 16 hHeld ?_
 refine o_ 1 14 (fun K hK => ?_)
 refine goes_ Try.func48 (by kernel_rfl) rfl #[.pointer (some ⟨q, 0, none⟩)] (by rfl) rfl rfl byL ?_
 refine (Metric_Weights.calls (HM.out.reads HK.out hn) (by omega)).mono ?_
 rintro e w3 ⟨v, rfl, hr3, hb3⟩
 obtain ⟨vA, vc, rfl, hvc, hvC⟩ := Kd.R_reads hr3
 have HV := Aside0.mk hvC
 have HVC := Aside0.mk hvc
 refine ⟨_, rfl, ?_⟩
 refine hK.out _ _ (pw_cell_below hb3 hHeld) (fun hHeld => ?_)
 replace HM := Aside0.mk (HM.out.below hb3)
 replace HW := Aside0.mk (Kd.C_below HW.out hb3)
 replace HU := Aside0.mk (Kd.C_below HU.out hb3)
 replace HD := Aside0.mk (Kd.C_below HD.out hb3)
 replace HB := Aside0.mk (below_then HB.out HB.out.size hb3)
 clear hK K hr3 hb3 hvc hvC
 refine n_ 14 ?_
 refine o_ 4 17 (fun K hK => ?_)
 refine goes_ Try.func66 (by kernel_rfl) rfl #[.slice vA ws.length vc, .slice wA ws.length wc] (by rfl) rfl rfl byL ?_
 refine (mapmakerref38_Ints.calls ki vA vc ws wA wc ws true w3 HV.out HVC.out HW.out HWC.out HKI.out).mono ?_
 rintro e w4 ⟨rfl, hd4⟩
 have hb4 := hd4.below
 refine ⟨_, rfl, ?_⟩
 refine hK.out _ _ (pw_cell_below hb4 hHeld) (fun hHeld => ?_)
 replace HM := Aside0.mk (HM.out.below hb4)
 replace HU := Aside0.mk (Kd.C_below HU.out hb4)
 replace HD := Aside0.mk (Kd.C_below HD.out hb4)
 replace HB := Aside0.mk (below_then HB.out HB.out.size hb4)
 clear hK K hd4 hb4 HV HVC HW
 refine n_ 17 ?_
 refine p_ 5 18 ?_
 refine p_ 6 19 ?_
 refine p_ 7 20 ?_
 refine o_ 8 21 (fun K hK => ?_)
 refine goes_ Try.func46 (by kernel_rfl) rfl #[.pointer (some ⟨q, 0, none⟩), .int .i64 (-1)] (by rfl) rfl rfl byL ?_
 refine (Metric_Up.calls (HM.out.reads HK.out hn) (-1)).mono ?_
 rintro e w5 ⟨rfl, rfl⟩
 refine ⟨_, rfl, ?_⟩
 refine hK.out _ _ hHeld (fun hHeld => ?_)
 rw [sideS_out (by omega)]
 unfold mInf
 clear hK K
 refine n_ 21 ?_
 refine p_ 9 22 ?_
 refine p_ 10 23 ?_
 refine p_ 11 24 ?_
 refine p_ 12 25 ?_
 refine p_ 13 26 ?_
 refine p_ 14 27 ?_
 refine o_ 15 28 (fun K hK => ?_)
 refine goes_ Try.func47 (by kernel_rfl) rfl #[.pointer (some ⟨q, 0, none⟩), .int .i64 (U.length : Int)] (by rfl) rfl rfl byL ?_
 refine (Metric_Down.calls (HM.out.reads HK.out hn) (U.length : Int)).mono ?_
 rintro e w6 ⟨rfl, rfl⟩
 refine ⟨_, rfl, ?_⟩
 refine hK.out _ _ hHeld (fun hHeld => ?_)
 rw [HUD.out, sideS_out (by have := HDL.out; dsimp only; omega)]
 unfold mInf
 clear hK K
 refine n_ 28 ?_
 refine p_ 16 29 ?_
 refine p_ 17 30 ?_
 refine d_ ?_
 clear hHeld hc4
 go_wp2_with (fail)
 go_loopw [7] (fun i wr => ∃ j : Nat, i = .int .i64 (j : Int) ∧ j ≤ U.length ∧ Aside0 (Below w6.heap.size w6 wr)) (fun i _ => U.length - (intOf i).toNat)
 case atStart => exact ⟨0, rfl, Nat.zero_le _, ⟨Below.refl _ _⟩⟩
 case round =>
  obtain ⟨j, rfl, hj, HB2⟩ := hrel
  by_cases hjl : j < U.length
  ·have HMr := Aside0.mk (HM.out.below HB2.out)
   rcases cells_of_C (Kd.C_below HU.out HB2.out) with ⟨h0, _⟩ | ⟨_, ub, uo, hA1, hcu⟩
   ·omega
   subst hA1
   rcases cells_of_C (Kd.C_below HD.out HB2.out) with ⟨h0, _⟩ | ⟨_, db, dof, hA1, hcd⟩
   ·have := HDL.out; omega
   subst hA1
   have hjd : j < D.length := by rw [HDL.out]; exact hjl
   have hu := hcu j hjl
   have hd := hcd j (by rw [HDL.out]; exact hjl)
   clear hcu hcd
   have HSU := Aside0.mk (sideS_at hjl)
   have HSD := Aside0.mk (sideS_at (l := D) (j := j) (by rw [HDL.out]; exact hjl))
   generalize U.getD j 0 = xu at hu HSU
   generalize D.getD j 0 = xd at hd HSD
   go_upto_region 7 with (fail)
   refine s_ (fun w' => w'.cell? ⟨ub, uo + j, none⟩ = some (.int .i64 xu) ∧ w'.cell? ⟨db, dof + j, none⟩ = some (.int .i64 xd)) [] ⟨hu, hd⟩ (fun hHeld => ?_)
   replace HMr := Aside0.mk (HMr.out.below (below_drew (Below.refl _ _)))
   refine p_ 0 37 ?_
   refine p_ 1 38 ?_
   refine p_ 3 40 ?_
   refine p_ 4 41 ?_
   refine p_ 5 42 ?_
   refine t2_ 6 43 hHeld ?_
   refine o_ 2 39 (fun K hK => ?_)
   refine goes_ Try.func46 (by kernel_rfl) rfl #[.pointer (some ⟨q, 0, none⟩), .int .i64 (j : Int)] (by rfl) rfl rfl byL ?_
   refine (Metric_Up.calls (HMr.out.reads HK.out hn) (j : Int)).mono ?_
   rintro e w5 ⟨rfl, rfl⟩
   refine ⟨_, rfl, ?_⟩
   refine hK.out _ _ hHeld (fun hHeld => ?_)
   rw [HUD.out]
   dsimp only
   rw [HSU.out]
   clear hK K
   refine n_ 39 ?_
   refine p_ 7 44 ?_
   refine p_ 8 45 ?_
   refine p_ 9 46 ?_
   refine p_ 10 47 ?_
   refine p_ 12 49 ?_
   refine p_ 13 50 ?_
   refine p_ 14 51 ?_
   refine t2_ 15 52 hHeld ?_
   refine o_ 11 48 (fun K hK => ?_)
   refine goes_ Try.func47 (by kernel_rfl) rfl #[.pointer (some ⟨q, 0, none⟩), .int .i64 (j : Int)] (by rfl) rfl rfl byL ?_
   refine (Metric_Down.calls (HMr.out.reads HK.out hn) (j : Int)).mono ?_
   rintro e w5 ⟨rfl, rfl⟩
   refine ⟨_, rfl, ?_⟩
   refine hK.out _ _ hHeld (fun hHeld => ?_)
   rw [HUD.out]
   dsimp only
   rw [HSD.out]
   clear hK K
   refine n_ 48 ?_
   refine p_ 16 53 ?_
   refine p_ 17 54 ?_
   refine d_ ?_
   clear hHeld
   go_wp2_with (fail)
   go_roundw
   case rel => exact ⟨j + 1, by go_num, by omega, ⟨below_then HB2.out HB2.out.size (below_drew (Below.refl _ _))⟩⟩
   case measure => simp [intOf]; omega
  ·go_wp2
   go_ret
   exact ⟨rfl, below_then HB.out HB.out.size HB2.out⟩
end Go.Proofs.Ytcfeehaoeaoegaa.Print
namespace Go.Proofs.Ytcfeehaoeaoegaa.Print
open Go.RowKit Go.Proofs.YtcfeehaoeaoegaaW.PrintWords Go.Proofs.YtcfeehaoeaoegaaW.PrintLast Go.Proofs.YtcfeehaoeaoegaaW.PrintMore
set_option linter.unusedVariables false
set_option linter.unusedSimpArgs false

def permL (m : Int) : List Int → List Int → Int
 | a :: al, v :: vs => if a < 0 ∨ a ≥ m then 2 else if v < -1 ∨ v > 1073741824 then 17 else permL m al vs
 | _, _ => 0
def permC (m : Int) (al vs : List Int) : Int := if al.length = vs.length then permL m al vs else 12
theorem permL_drop {m : Int} {al vs : List Int} {j : Nat} (h1 : j < al.length) (h2 : j < vs.length) : permL m (al.drop j) (vs.drop j) = if al.getD j 0 < 0 ∨ al.getD j 0 ≥ m then 2 else if vs.getD j 0 < -1 ∨ vs.getD j 0 > 1073741824 then 17 else permL m (al.drop (j + 1)) (vs.drop (j + 1)) := by
 rw [List.drop_eq_getElem_cons h1, List.drop_eq_getElem_cons h2]
 have e1 : al.getD j 0 = al[j] := by simp [h1]
 have e2 : vs.getD j 0 = vs[j] := by simp [h2]
 rw [e1, e2]
 rfl
set_option maxHeartbeats 3200000 in
set_option maxRecDepth 100000 in
theorem Metric_permitted.calls {w : World} {q p : Nat} {ws : List Int} {ar : List (List Int)} {up dn : List Int} (h : MetR w q p ws ar up dn) {aA vA : Option Addr} {ac vc : Nat} {al vs : List Int} (ha : Kd.C (Kd.int .i64) w aA al.length al) (hv : Kd.C (Kd.int .i64) w vA vs.length vs) (hwl : ws.length ≤ 1000000) (hal : al.length ≤ 1000000) :
  Calls Try.prog 67 #[.pointer (some ⟨q, 0, none⟩), .slice aA al.length ac, .slice vA vs.length vc] w fun e w' => e = .returned (.int .i64 (permC (ws.length : Int) al vs)) ∧ w' = w := by
 obtain ⟨wA, wc, arA, arc, uA, uc, dA, dc, h1, h2, h3, h4, h5⟩ := h.out
 have hcc := (blk_cell h1 1).trans rfl
 have HA := Aside0.mk ha
 have HV := Aside0.mk hv
 clear h h1 h2 h3 h4 h5 ha hv
 go_enter Try.func67, Try.ntmps67
 by_cases hlen : al.length = vs.length
 ·have HLEN := Aside0.mk hlen
  have HP : Aside0 (permC (ws.length : Int) al vs = permL (ws.length : Int) al vs) := ⟨if_pos hlen⟩
  have hli : ¬ (((al.length : Int) == (vs.length : Int)) = false) := by simp [hlen]
  have HL : Aside0 (vs.length = al.length) := ⟨hlen.symm⟩
  rw [← hlen]
  clear hli hlen
  go_wp2_with (fail)
  go_loopw [16] (fun i wr => ∃ (j : Nat), i = .int .i64 (j : Int) ∧ j ≤ al.length ∧ wr = w ∧ Aside0 (permL (ws.length : Int) al vs = permL (ws.length : Int) (al.drop j) (vs.drop j))) (fun i _ => al.length - (intOf i).toNat)
  case atStart => exact ⟨0, rfl, Nat.zero_le _, rfl, ⟨rfl⟩⟩
  case round =>
   obtain ⟨j, rfl, hj, rfl, HD⟩ := hrel
   by_cases hjl : j < al.length
   ·have hjv : j < vs.length := by rw [HL.out]; exact hjl
    rcases cells_of_C HA.out with ⟨hz, _⟩ | ⟨_, ab, ao, hA1, hce⟩
    ·omega
    subst hA1
    have hca := hce j hjl
    clear hce
    rcases cells_of_C HV.out with ⟨hz, _⟩ | ⟨_, vb, vo, hA1, hce⟩
    ·have := HL.out; omega
    subst hA1
    have hcv := hce j hjv
    clear hce
    have HN : Aside0 (permL (ws.length : Int) al vs = if al.getD j 0 < 0 ∨ al.getD j 0 ≥ (ws.length : Int) then 2 else if vs.getD j 0 < -1 ∨ vs.getD j 0 > 1073741824 then 17 else permL (ws.length : Int) (al.drop (j + 1)) (vs.drop (j + 1))) := ⟨by rw [HD.out, permL_drop hjl hjv]⟩
    generalize al.getD j 0 = a at hca HN
    generalize vs.getD j 0 = v at hcv HN
    clear hjv
    by_cases ha0 : a < 0
    ·have HR : Aside0 (permC (ws.length : Int) al vs = 2) := ⟨by rw [HP.out, HN.out, if_pos (.inl ha0)]⟩
     go_wp2
     go_ret
     exact ⟨by rw [HR.out]; rfl, rfl⟩
    ·by_cases ha1 : a ≥ (ws.length : Int)
     ·have HR : Aside0 (permC (ws.length : Int) al vs = 2) := ⟨by rw [HP.out, HN.out, if_pos (.inr ha1)]⟩
      go_wp2
      go_ret
      exact ⟨by rw [HR.out]; rfl, rfl⟩
     ·by_cases hv0 : v < -1
      ·have HR : Aside0 (permC (ws.length : Int) al vs = 17) := ⟨by rw [HP.out, HN.out, if_neg (by omega), if_pos (.inl hv0)]⟩
       go_wp2
       go_ret
       exact ⟨by rw [HR.out]; rfl, rfl⟩
      ·by_cases hv1 : v > 1073741824
       ·have HR : Aside0 (permC (ws.length : Int) al vs = 17) := ⟨by rw [HP.out, HN.out, if_neg (by omega), if_pos (.inr hv1)]⟩
        go_wp2
        go_ret
        exact ⟨by rw [HR.out]; rfl, rfl⟩
       ·have HR : Aside0 (permL (ws.length : Int) al vs = permL (ws.length : Int) (al.drop (j + 1)) (vs.drop (j + 1))) := ⟨by rw [HN.out, if_neg (by omega), if_neg (by omega)]⟩
        go_wp2_with (fail)
        go_roundw
        case rel => exact ⟨j + 1, by go_num, by omega, by first | exact trivial | rfl, HR⟩
        case measure => simp [intOf]; omega
   ·have HR : Aside0 (permC (ws.length : Int) al vs = 0) := ⟨by rw [HP.out, HD.out, List.drop_of_length_le (by omega)]; unfold permL; rfl⟩
    go_wp2
    go_ret
    exact ⟨by rw [HR.out]; rfl, rfl⟩
 ·have HP : Aside0 (permC (ws.length : Int) al vs = 12) := ⟨if_neg hlen⟩
  have hli : ¬ ((al.length : Int) = (vs.length : Int)) := by omega
  go_wp2
  go_ret
  exact ⟨by rw [HP.out]; rfl, rfl⟩
def tagArs (o : Tags) (b : Nat) : Tags := fun k => if k < b ∧ (o k).1 = 4 then o k else (0, 0)
theorem rows_tagArs {w : World} {base B : Nat} {o : Tags} {vs : Nat → Value} {rs : List (List Int)} (h : RowsIs w base B 4 o vs rs) : RowsIs w base B 4 (tagArs o w.heap.size) vs rs := by
 refine ⟨h.cell, fun i hi => ?_, ?_, h.lo, h.top, h.frz⟩
 ·have h1 := h.row i hi
  refine Kd.R_reok rfl h1 (fun k hk => ?_)
  have h2 : o k = (4, i + 1) := h1.1 k hk
  show tagArs o w.heap.size k = (4, i + 1)
  unfold tagArs
  rw [if_pos ⟨Kd.R_lt h1 k hk, by rw [h2]⟩, h2]
 ·unfold tagArs
  rw [if_pos ⟨h.top, by rw [h.own]⟩, h.own]
set_option maxHeartbeats 3200000 in
set_option maxRecDepth 100000 in
theorem Metric_Copy.calls {w : World} {base q p : Nat} {o : Tags} {wv uv dv : Value} {Ba : Nat} {va : Nat → Value} {ws : List Int} {ar : List (List Int)} {up dn : List Int} (h : MetO w base q p o wv uv dv Ba va ws ar up dn) (hwl : ws.length ≤ 1000000) (hul : up.length ≤ 1000000) (hdl : dn.length ≤ 1000000) :
  Calls Try.prog 45 #[.pointer (some ⟨q, 0, none⟩)] w fun e w' => ∃ qc oc wv' uv' dv', e = .returned (.pointer (some ⟨qc, 0, none⟩)) ∧ MetO w' base qc p oc wv' uv' dv' Ba va ws ar up dn ∧ Below w.heap.size w w' ∧ (∀ k, k < w.heap.size → (oc k).1 ≠ 1 ∧ (oc k).1 ≠ 2 ∧ (oc k).1 ≠ 3) ∧ w.heap.size ≤ qc := by
 obtain ⟨wA, wc, rfl, hwc, hwC⟩ := Kd.R_reads h.wr
 obtain ⟨uA, uc, rfl, huc, huC⟩ := Kd.R_reads h.ur
 obtain ⟨dA, dc, rfl, hdc, hdC⟩ := Kd.R_reads h.dr
 have c0 := (blk_cell h.blk 0).trans rfl
 have c1 := (blk_cell h.blk 1).trans rfl
 have c2 := (blk_cell h.blk 2).trans rfl
 have c3 := (blk_cell h.blk 3).trans rfl
 have c4 := (blk_cell h.blk 4).trans rfl
 have HW := Aside0.mk hwC
 have HU := Aside0.mk huC
 have HD := Aside0.mk hdC
 have HWC := Aside0.mk hwc
 have HUC := Aside0.mk huc
 have HDC := Aside0.mk hdc
 have HRA := Aside0.mk (rows_tagArs h.ra)
 have HBL := Aside0.mk h.base_le
 have HQ : Aside0 (∀ k, k < w.heap.size → (tagArs o w.heap.size k).1 ≠ 1 ∧ (tagArs o w.heap.size k).1 ≠ 2 ∧ (tagArs o w.heap.size k).1 ≠ 3) := ⟨fun k hk => by
  unfold tagArs
  split
  ·rename_i hc
   rw [hc.2]
   decide
  ·decide⟩
 obtain ⟨o0, HO0⟩ : ∃ x, Aside0 (tagArs o w.heap.size = x) := ⟨_, ⟨rfl⟩⟩
 rw [HO0.out] at HRA HQ
 clear h hwC huC hdC hwc huc hdc HO0
 go_enter Try.func45, Try.ntmps45
 go_upto_region 3 with (fail)
 refine s_ (fun w' => w'.cell? ⟨q, 0, none⟩ = some (.pointer (some ⟨p, 0, none⟩)) ∧ w'.cell? ⟨q, 1, none⟩ = some (.slice wA ws.length wc) ∧ w'.cell? ⟨q, 2, none⟩ = some (.slice (some ⟨Ba, 0, none⟩) ar.length ar.length) ∧ w'.cell? ⟨q, 3, none⟩ = some (.slice uA up.length uc) ∧ w'.cell? ⟨q, 4, none⟩ = some (.slice dA dn.length dc)) [] ⟨c0, c1, c2, c3, c4⟩ (fun hHeld => ?_)
 replace HW := Aside0.mk (Kd.C_drew HW.out)
 replace HU := Aside0.mk (Kd.C_drew HU.out)
 replace HD := Aside0.mk (Kd.C_drew HD.out)
 replace HRA := Aside0.mk HRA.out.drew
 have HB : Aside0 (Below w.heap.size w w.drew) := ⟨below_drew (Below.refl _ _)⟩
 have hsz : w.drew.heap.size = w.heap.size := rfl
 generalize w.drew = wd at HW HU HD HRA HB hHeld hsz ⊢
 clear c0 c1 c2 c3 c4
 refine p_ 0 5 ?_
 refine p_ 1 6 ?_
 refine p_ 2 7 ?_
 refine t5_ 3 8 hHeld ?_
 refine p_ 4 9 ?_
 refine p_ 5 10 ?_
 refine p_ 6 11 ?_
 refine t5_ 7 12 hHeld ?_
 refine p_ 9 14 ?_
 refine p_ 10 15 ?_
 refine p_ 11 16 ?_
 refine t5_ 12 17 hHeld ?_
 refine p_ 13 18 ?_
 refine p_ 14 19 ?_
 refine p_ 15 20 ?_
 refine t5_ 16 21 hHeld ?_
 refine p_ 18 23 ?_
 refine p_ 19 24 ?_
 refine p_ 20 25 ?_
 refine t5_ 21 26 hHeld ?_
 refine o_ 8 13 (fun K hK => ?_)
 refine goes_ Try.func63 (by kernel_rfl) rfl #[.slice wA ws.length wc] (by rfl) rfl rfl byL ?_
 refine (custom_copied.calls wA wc ws ws _ HW.out HWC.out (copied_f hwl)).mono ?_
 rintro e w1 ⟨v1, rfl, hr1, hb1⟩
 refine ⟨_, rfl, ?_⟩
 refine hK.out _ _ ⟨pw_cell_below hb1 hHeld.1, pw_cell_below hb1 hHeld.2.1, pw_cell_below hb1 hHeld.2.2.1, pw_cell_below hb1 hHeld.2.2.2.1, pw_cell_below hb1 hHeld.2.2.2.2⟩ (fun hHeld => ?_)
 have hbl1 : base ≤ wd.heap.size := by rw [hsz]; exact HBL.out
 have HR1 := Aside0.mk (newR (o := o0) (base := base) (t := (1, 0)) rfl hr1 hbl1)
 have HRA1 := Aside0.mk ((HRA.out.retag (o' := tagNew o0 wd.heap.size (1, 0)) (fun k hk => tagNew_old hk)).below hb1)
 have hl1 : wd.heap.size ≤ w1.heap.size := hb1.size
 replace HU := Aside0.mk (Kd.C_below HU.out hb1)
 replace HD := Aside0.mk (Kd.C_below HD.out hb1)
 replace HB := Aside0.mk (below_then HB.out HB.out.size hb1)
 clear hK K hr1 hb1 HRA HW
 refine n_ 13 ?_
 refine o_ 17 22 (fun K hK => ?_)
 refine goes_ Try.func63 (by kernel_rfl) rfl #[.slice uA up.length uc] (by rfl) rfl rfl byL ?_
 refine (custom_copied.calls uA uc up up _ HU.out HUC.out (copied_f hul)).mono ?_
 rintro e w2 ⟨v2, rfl, hr2, hb2⟩
 refine ⟨_, rfl, ?_⟩
 refine hK.out _ _ ⟨pw_cell_below hb2 hHeld.1, pw_cell_below hb2 hHeld.2.1, pw_cell_below hb2 hHeld.2.2.1, pw_cell_below hb2 hHeld.2.2.2.1, pw_cell_below hb2 hHeld.2.2.2.2⟩ (fun hHeld => ?_)
 obtain ⟨o1, HO1⟩ : ∃ x, Aside0 (tagNew o0 wd.heap.size (1, 0) = x) := ⟨_, ⟨rfl⟩⟩
 rw [HO1.out] at HR1 HRA1
 have HR1b := Aside0.mk (Kd.R_below (Kd.R_reok (ok := fun j => tagNew o1 w1.heap.size (2, 0) j = (1, 0)) rfl HR1.out (fun j hj => by rw [tagNew_old (Kd.R_lt HR1.out j hj)]; exact HR1.out.1 j hj)) hb2)
 have HR2 := Aside0.mk (newR (o := o1) (base := base) (t := (2, 0)) rfl hr2 (Nat.le_trans hbl1 hl1))
 have HRA2 := Aside0.mk ((HRA1.out.retag (o' := tagNew o1 w1.heap.size (2, 0)) (fun k hk => tagNew_old hk)).below hb2)
 have hl2 : w1.heap.size ≤ w2.heap.size := hb2.size
 replace HD := Aside0.mk (Kd.C_below HD.out hb2)
 replace HB := Aside0.mk (below_then HB.out HB.out.size hb2)
 clear hK K hr2 hb2 HRA1 HU HR1
 refine n_ 22 ?_
 refine o_ 22 27 (fun K hK => ?_)
 refine goes_ Try.func63 (by kernel_rfl) rfl #[.slice dA dn.length dc] (by rfl) rfl rfl byL ?_
 refine (custom_copied.calls dA dc dn dn _ HD.out HDC.out (copied_f hdl)).mono ?_
 rintro e w3 ⟨v3, rfl, hr3, hb3⟩
 refine ⟨_, rfl, ?_⟩
 refine hK.out _ _ ⟨pw_cell_below hb3 hHeld.1, pw_cell_below hb3 hHeld.2.1, pw_cell_below hb3 hHeld.2.2.1, pw_cell_below hb3 hHeld.2.2.2.1, pw_cell_below hb3 hHeld.2.2.2.2⟩ (fun hHeld => ?_)
 obtain ⟨o2, HO2⟩ : ∃ x, Aside0 (tagNew o1 w1.heap.size (2, 0) = x) := ⟨_, ⟨rfl⟩⟩
 rw [HO2.out] at HR1b HR2 HRA2
 have HR1c := Aside0.mk (Kd.R_below (Kd.R_reok (ok := fun j => tagNew o2 w2.heap.size (3, 0) j = (1, 0)) rfl HR1b.out (fun j hj => by rw [tagNew_old (Kd.R_lt HR1b.out j hj)]; exact HR1b.out.1 j hj)) hb3)
 have HR2c := Aside0.mk (Kd.R_below (Kd.R_reok (ok := fun j => tagNew o2 w2.heap.size (3, 0) j = (2, 0)) rfl HR2.out (fun j hj => by rw [tagNew_old (Kd.R_lt HR2.out j hj)]; exact HR2.out.1 j hj)) hb3)
 have HR3 := Aside0.mk (newR (o := o2) (base := base) (t := (3, 0)) rfl hr3 (Nat.le_trans hbl1 (Nat.le_trans hl1 hl2)))
 have HRA3 := Aside0.mk ((HRA2.out.retag (o' := tagNew o2 w2.heap.size (3, 0)) (fun k hk => tagNew_old hk)).below hb3)
 have hl3 : w2.heap.size ≤ w3.heap.size := hb3.size
 replace HB := Aside0.mk (below_then HB.out HB.out.size hb3)
 clear hK K hr3 hb3 HRA2 HD HR1b HR2
 obtain ⟨o3, HO3⟩ : ∃ x, Aside0 (tagNew o2 w2.heap.size (3, 0) = x) := ⟨_, ⟨rfl⟩⟩
 rw [HO3.out] at HR1c HR2c HR3 HRA3
 obtain ⟨A1, k1, e1⟩ := Kd.R_slice HR1c.out
 obtain ⟨A2, k2, e2⟩ := Kd.R_slice HR2c.out
 obtain ⟨A3, k3, e3⟩ := Kd.R_slice HR3.out
 subst e1 e2 e3
 refine n_ 27 ?_
 refine p_ 23 28 ?_
 have hbp : Below w3.heap.size w3 (w3.alloc (.cells #[.pointer (some ⟨p, 0, none⟩), .slice A1 ws.length k1, .slice (some ⟨Ba, 0, none⟩) ar.length ar.length, .slice A2 up.length k2, .slice A3 dn.length k3] 95 (0, 0))) := (Below.refl _ _).alloc (Nat.le_refl _) _
 have hpb := heap_alloc_new w3 (.cells #[.pointer (some ⟨p, 0, none⟩), .slice A1 ws.length k1, .slice (some ⟨Ba, 0, none⟩) ar.length ar.length, .slice A2 up.length k2, .slice A3 dn.length k3] 95 (0, 0))
 refine o_ 24 29 (fun K hK => ?_)
 refine value_ (w1 := ?_) (v := ?_) (by rfl) rfl ?_ ?_; rotate_left 2; (·go_simp; constructor; (·rfl); (·rfl))
 refine hK.out _ _ ⟨pw_cell_below hbp hHeld.1, pw_cell_below hbp hHeld.2.1, pw_cell_below hbp hHeld.2.2.1, pw_cell_below hbp hHeld.2.2.2.1, pw_cell_below hbp hHeld.2.2.2.2⟩ (fun hHeld => ?_)
 clear hK K
 have hold : ∀ {v : Value} {xs : List Int} {t : Nat × Nat}, Kd.R (Kd.int .i64) 3 w3 base (fun j => o3 j = t) v xs → Kd.R (Kd.int .i64) 3 (w3.alloc (.cells #[.pointer (some ⟨p, 0, none⟩), .slice A1 ws.length k1, .slice (some ⟨Ba, 0, none⟩) ar.length ar.length, .slice A2 up.length k2, .slice A3 dn.length k3] 95 (0, 0))) base (fun j => tagNew o3 w3.heap.size (6, 0) j = t) v xs := fun {v xs t} hr => Kd.R_below (Kd.R_reok rfl hr (fun j hj => by rw [tagNew_old (Kd.R_lt hr j hj)]; exact hr.1 j hj)) hbp
 have HMF : Aside0 (MetO (w3.alloc (.cells #[.pointer (some ⟨p, 0, none⟩), .slice A1 ws.length k1, .slice (some ⟨Ba, 0, none⟩) ar.length ar.length, .slice A2 up.length k2, .slice A3 dn.length k3] 95 (0, 0))) base w3.heap.size p (tagNew o3 w3.heap.size (6, 0)) (.slice A1 ws.length k1) (.slice A2 up.length k2) (.slice A3 dn.length k3) Ba va ws ar up dn) := ⟨⟨hpb, tagNew_new (Nat.le_refl _), by omega, hold HR1c.out, hold HR2c.out, hold HR3.out, (HRA3.out.retag (fun k hk => tagNew_old hk)).below hbp⟩⟩
 have HTG : Aside0 (∀ k, k < w.heap.size → (tagNew o3 w3.heap.size (6, 0) k).1 ≠ 1 ∧ (tagNew o3 w3.heap.size (6, 0) k).1 ≠ 2 ∧ (tagNew o3 w3.heap.size (6, 0) k).1 ≠ 3) := ⟨fun k hk => by
  rw [tagNew_old (by omega), ← HO3.out, tagNew_old (by omega), ← HO2.out, tagNew_old (by omega), ← HO1.out, tagNew_old (by omega)]
  exact HQ.out k hk⟩
 replace HB := Aside0.mk (below_then HB.out HB.out.size hbp)
 have hlq : w.heap.size ≤ w3.heap.size := by omega
 refine n_ 29 ?_
 refine p_ 25 2 ?_
 refine d_ ?_
 clear hHeld hbp hpb hold
 generalize w3.alloc (.cells #[.pointer (some ⟨p, 0, none⟩), .slice A1 ws.length k1, .slice (some ⟨Ba, 0, none⟩) ar.length ar.length, .slice A2 up.length k2, .slice A3 dn.length k3] 95 (0, 0)) = w4 at HMF HB ⊢
 go_wp2
 go_ret
 exact ⟨_, _, _, _, _, rfl, HMF.out, HB.out, HTG.out, hlq⟩
end Go.Proofs.Ytcfeehaoeaoegaa.Print
namespace Go.Proofs.Ytcfeehaoeaoegaa.Print
open Go.RowKit Go.Proofs.YtcfeehaoeaoegaaW.PrintWords Go.Proofs.YtcfeehaoeaoegaaW.PrintLast Go.Proofs.YtcfeehaoeaoegaaW.PrintMore
set_option linter.unusedVariables false
set_option linter.unusedSimpArgs false

def markS (n : Nat) (R : List Int) (S : HSt) (pd : List Bool) (u v : Int) : List Bool := if (findS n R S u v).2 = true then pd.set (findS n R S u v).1.toNat true else pd
theorem markS_len (n : Nat) (R : List Int) (S : HSt) (pd : List Bool) (u v : Int) : (markS n R S pd u v).length = pd.length := by
 unfold markS
 split
 ·exact List.length_set ..
 ·rfl
set_option maxHeartbeats 3200000 in
set_option maxRecDepth 100000 in
theorem Set_mark.calls {w : World} {q p n base b3 b11 Bp m : Nat} {arcs : List S38} {L R : List Int} {S : HSt} {pd : List Bool} {ok : Nat → Prop} (hh : HierR w p n arcs L R S) (hR : R.length = n) (hf : ∀ u v, (findS n R S u v).2 = true → 0 ≤ (findS n R S u v).1 ∧ (findS n R S u v).1 < (m : Int))
  (hb3 : w.cell? ⟨b3, 0, none⟩ = some (.pointer (some ⟨q, 0, none⟩))) (hq : w.cell? ⟨q, 0, none⟩ = some (.pointer (some ⟨p, 0, none⟩))) (hb11 : w.cell? ⟨b11, 0, none⟩ = some (.slice (some ⟨Bp, 0, none⟩) m m)) (hp : Kd.R Kd.bool 4 w base ok (.slice (some ⟨Bp, 0, none⟩) m m) pd) (hm : pd.length = m) (u v : Int) :
  Calls Try.prog 68 #[.int .i64 u, .int .i64 v, .pointer (some ⟨b3, 0, none⟩), .pointer (some ⟨b11, 0, none⟩)] w fun e w' => e = .returned (.tuple #[]) ∧ Bel (fun k => k = Bp) w w' ∧ Kd.R Kd.bool 4 w' base ok (.slice (some ⟨Bp, 0, none⟩) m m) (markS n R S pd u v) := by
 have HH := Aside0.mk hh
 have HF := Aside0.mk (hf u v)
 have HP := Aside0.mk hp
 have HM := Aside0.mk hm
 clear hh hf hp hm
 go_enter Try.func68, Try.ntmps68
 go_wp2_with (fail)
 refine (Hier_Find.calls HH.out hR u v).mono ?_
 rintro e w2 ⟨rfl, hb2⟩
 have HMK : Aside0 (markS n R S pd u v = if (findS n R S u v).2 = true then pd.set (findS n R S u v).1.toNat true else pd) := ⟨rfl⟩
 generalize findS n R S u v = f at HF HMK ⊢
 obtain ⟨fe, fb⟩ := f
 replace hb3 := pw_cell_below hb2 hb3
 replace hb11 := pw_cell_below hb2 hb11
 replace HP := Aside0.mk (Kd.R_below HP.out hb2)
 have HB := Aside0.mk ((Bel.refl (fun k => k = Bp) w).below hb2)
 clear hb2 hq
 cases fb with
 | false =>
  have HMK2 : Aside0 (markS n R S pd u v = pd) := ⟨HMK.out.trans (if_neg Bool.false_ne_true)⟩
  go_wp2
  go_end0
  exact ⟨rfl, HB.out, by rw [HMK2.out]; exact HP.out⟩
 | true =>
  have HMK2 : Aside0 (markS n R S pd u v = pd.set fe.toNat true) := ⟨HMK.out.trans (if_pos rfl)⟩
  obtain ⟨h0, h1⟩ := HF.out rfl
  obtain ⟨i, rfl⟩ := Int.eq_ofNat_of_zero_le h0
  rw [Int.toNat_natCast] at HMK2
  have hil : i < m := by omega
  have hcu := Kd.R_cell (enc := Value.bool) (h1 := fun _ => rfl) false (cap := m) (g := Bp) (by rw [HM.out]; exact HP.out) (i : Int) (by omega) (by rw [HM.out]; omega)
  rw [Int.toNat_natCast] at hcu
  obtain ⟨hcu, hfu⟩ := hcu
  have HPU := Aside0.mk (Kd.R_put (enc := Value.bool) (h1 := fun _ => rfl) (cap := m) (g := Bp) (e := 4) (by rw [HM.out]; exact HP.out) (i : Int) true).1
  rw [Int.toNat_natCast, HM.out] at HPU
  have HBU := Aside0.mk (HB.out.setCell ⟨Bp, i, none⟩ (.bool true) (.inl rfl))
  clear h0 h1
  go_wp2
  go_end0
  exact ⟨rfl, HBU.out, by rw [HMK2.out]; exact HPU.out⟩
end Go.Proofs.Ytcfeehaoeaoegaa.Print
