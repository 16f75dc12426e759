/- Several texts of this claim in one: HTAlw, HTNil, F46. -/
import Derived.Test.YtaodlehnfjalnaaM13
import Derived.Test.YtaodlehnfjalnaaM9
import Derived.Test.YtaodlehnfjalnaaM6
import Derived.Carry
import Derived.WideMake
import Derived.Test.YtaodlehnfjalnaaPrint0
import Derived.Test.YtaodlehnfjalnaaM0
namespace Go.Proofs.Ytaodlehnfjalnaa.Print
open Go.RowKit Go.Proofs.YtaodlehnfjalnaaW.PrintWords Go.Proofs.YtaodlehnfjalnaaW.PrintLast Go.Proofs.YtaodlehnfjalnaaW.PrintMore
set_option linter.unusedVariables false
set_option linter.unusedSimpArgs false
theorem back_same {p q : S58} (h : p.f1 = q.f0) : backB p q = backR p q := by
 unfold backB backR
 rw [decide_eq_decide]
 constructor
 ·rintro ⟨h1, h2⟩; exact ⟨h.symm, h2, h1⟩
 ·rintro ⟨_, h2, h3⟩; exact ⟨h3, h2⟩
theorem perm_allow {nodes : List Int} {pts : List S158} {pcs : List S58} (l : List S42) (hc : chk46 nodes pts pcs = 0) {a b : Nat} (ha : a < pcs.length) (hb : b < pcs.length) {v : Nat} (hv : (rd_T58 pcs (b : Int)).f0 = (v : Int)) (h : (rd_T58 pcs (a : Int)).f1 = (rd_T58 pcs (b : Int)).f0) :
  permB nodes pcs l (leavA pcs v pcs.length) (a : Int) (b : Int) = allowB nodes pts pcs l (a : Int) (b : Int) := by
 have hall : (leavA pcs v pcs.length).all (fun i => backB (rd_T58 pcs (a : Int)) (rd_T58 pcs i)) = pcs.all (onlyBack (rd_T58 pcs (a : Int))) := by
  rw [Bool.eq_iff_iff, List.all_eq_true, List.all_eq_true]
  constructor
  ·intro h1 q hq
   obtain ⟨i, hi, rfl⟩ := List.getElem_of_mem hq
   unfold onlyBack
   by_cases e : pcs[i].f0 = (rd_T58 pcs (a : Int)).f1
   ·rw [decide_eq_true e, Bool.not_true, Bool.false_or, ← back_same e.symm]
    have := h1 (i : Int) (leavA_mem.2 ⟨i, hi, by rw [rd_pc pcs i hi, e, h, hv], rfl⟩)
    rwa [rd_pc pcs i hi] at this
   ·rw [decide_eq_false e]
    rfl
  ·intro h1 x hx
   obtain ⟨i, hi, hi2, rfl⟩ := leavA_mem.1 hx
   have e : (rd_T58 pcs (a : Int)).f1 = (rd_T58 pcs (i : Int)).f0 := by rw [h, hv, hi2]
   have h2 := h1 _ (rd_mem hi)
   unfold onlyBack at h2
   rw [decide_eq_true e.symm, Bool.not_true, Bool.false_or] at h2
   rw [back_same e]
   exact h2
 unfold permB
 rw [hall, back_same h]
 unfold allowB
 rw [if_neg (show ¬ (chk46 nodes pts pcs ≠ 0 ∨ (a : Int) < 0 ∨ (b : Int) < 0 ∨ (a : Int) ≥ (pcs.length : Int) ∨ (b : Int) ≥ (pcs.length : Int)) by omega), if_neg (show ¬ (rd_T58 pcs (a : Int)).f1 ≠ (rd_T58 pcs (b : Int)).f0 from fun h1 => h1 h)]
def turns_Allowed.f (l0_0 : List Int) (l0_1 : List S158) (l0_2 : List S58) (l1 : List S42) (a2 a3 : Int) : Option Bool := if l0_0.length ≤ 1000000 ∧ l0_2.length ≤ 1000000 then some (allowB l0_0 l0_1 l0_2 l1 a2 a3) else none
set_option maxHeartbeats 12800000 in
set_option maxRecDepth 100000 in
theorem turns_Allowed.calls (A0_0 : Option Addr) (c0_0 : Nat) (l0_0 : List Int) (A0_1 : Option Addr) (c0_1 : Nat) (l0_1 : List S158) (A0_2 : Option Addr) (c0_2 : Nat) (l0_2 : List S58) (A1 : Option Addr) (c1 : Nat) (l1 : List S42) (a2 a3 : Int) (r : Bool) (w : World) (hr0_0 : Kd.C (Kd.int .i64) w A0_0 l0_0.length l0_0) (hc0_0 : l0_0.length ≤ c0_0) (hr0_1 : Kd.C k158 w A0_1 l0_1.length l0_1) (hc0_1 : l0_1.length ≤ c0_1) (hr0_2 : Kd.C k58 w A0_2 l0_2.length l0_2) (hc0_2 : l0_2.length ≤ c0_2) (hr1 : Kd.C k42 w A1 l1.length l1) (hc1 : l1.length ≤ c1)
  (h : turns_Allowed.f l0_0 l0_1 l0_2 l1 a2 a3 = some r) :
  Calls Try.prog 14 #[.agg #[.slice A0_0 l0_0.length c0_0, .slice A0_1 l0_1.length c0_1, .slice A0_2 l0_2.length c0_2], .slice A1 l1.length c1, .int .i64 a2, .int .i64 a3] w fun e w' => e = .returned (.bool r) ∧ Below w.heap.size w w' := by
 unfold turns_Allowed.f at h
 split at h
 rotate_left
 ·cases h
 rename_i hok
 injection h with h
 obtain ⟨hnl, hpl⟩ := hok
 obtain ⟨kc, hkc⟩ := road_ev l0_0 l0_1 l0_2 hnl hpl
 have HKC := Aside0.mk (hkc kc (Nat.le_refl _))
 have HLV := Aside0.mk (fun (h : chk46 l0_0 l0_1 l0_2 = 0) => leav_ev l0_0 l0_1 l0_2 hnl hpl h)
 have HN := Aside0.mk hr0_0
 have HPT := Aside0.mk hr0_1
 have HPC := Aside0.mk hr0_2
 have HT := Aside0.mk hr1
 have HNC := Aside0.mk hc0_0
 have HPTC := Aside0.mk hc0_1
 have HPCC := Aside0.mk hc0_2
 have HTC := Aside0.mk hc1
 have HR := Aside0.mk h
 clear hr0_0 hc0_0 hr0_1 hc0_1 hr0_2 hc0_2 hr1 hc1 h hkc
 go_enter Try.func14, Try.ntmps14
 go_upto_region 2 with (fail)
 have hba : Below w.heap.size w (w.alloc (Obj.cells #[.slice A0_0 l0_0.length c0_0, .slice A0_1 l0_1.length c0_1, .slice A0_2 l0_2.length c0_2] 37)) := (Below.refl _ _).alloc (Nat.le_refl _) _
 have HBK := Aside0.mk (heap_alloc_new w (Obj.cells #[.slice A0_0 l0_0.length c0_0, .slice A0_1 l0_1.length c0_1, .slice A0_2 l0_2.length c0_2] 37))
 have HB0 := Aside0.mk hba
 clear hba
 generalize w.alloc (Obj.cells #[.slice A0_0 l0_0.length c0_0, .slice A0_1 l0_1.length c0_1, .slice A0_2 l0_2.length c0_2] 37) = w0 at HB0 HBK ⊢
 have d0 : w0.cell? ⟨w.heap.size, 0, none⟩ = some (.slice A0_0 l0_0.length c0_0) := blk_cell HBK.out 0
 have d1 : w0.cell? ⟨w.heap.size, 1, none⟩ = some (.slice A0_1 l0_1.length c0_1) := blk_cell HBK.out 1
 have d2 : w0.cell? ⟨w.heap.size, 2, none⟩ = some (.slice A0_2 l0_2.length c0_2) := blk_cell HBK.out 2
 refine s_ (fun w' => Below w0.heap.size w0 w') [] (below_drew (Below.refl _ _)) (fun hHeld => ?_)
 refine t1_ 0 13 hHeld ?_ (hy := Or.inl ⟨by rfl, by rintro w' s0; have g0 := pw_cell_below s0 d0; have g1 := pw_cell_below s0 d1; have g2 := pw_cell_below s0 d2; go_simp; with_reducible rfl⟩)
 refine o_ 1 14 (fun K hK => ?_)
 refine goes_ Try.func36 (by kernel_rfl) rfl #[.agg #[.slice A0_0 l0_0.length c0_0, .slice A0_1 l0_1.length c0_1, .slice A0_2 l0_2.length c0_2]] (by rfl) rfl rfl byL ?_
 refine (roads_Check.calls kc A0_0 c0_0 l0_0 A0_1 c0_1 l0_1 A0_2 c0_2 l0_2 (chk46 l0_0 l0_1 l0_2) _ (Kd.C_below (Kd.C_below HN.out HB0.out) hHeld) HNC.out (Kd.C_below (Kd.C_below HPT.out HB0.out) hHeld) HPTC.out (Kd.C_below (Kd.C_below HPC.out HB0.out) hHeld) HPCC.out HKC.out).mono ?_
 rintro e w1 ⟨rfl, hb1⟩
 refine ⟨_, rfl, ?_⟩
 have hb2 := below_then hHeld hHeld.size hb1
 refine hK.out _ _ hb2 (fun hHeld => ?_)
 clear hK K hb1 hb2 HKC
 refine n_ 14 ?_
 have HWH := Aside0.mk hHeld
 have HB := Aside0.mk (below_then HB0.out HB0.out.size hHeld)
 by_cases hg : chk46 l0_0 l0_1 l0_2 ≠ 0 ∨ a2 < 0 ∨ a3 < 0 ∨ a2 ≥ (l0_2.length : Int) ∨ a3 ≥ (l0_2.length : Int)
 ·have HRF : Aside0 (r = false) := ⟨by rw [← HR.out, allowB, if_pos hg]⟩
  have HG := Aside0.mk hg
  clear hg
  generalize chk46 l0_0 l0_1 l0_2 = ck at HG ⊢
  by_cases g0 : ck = 0
  ·subst g0
   by_cases g1 : a2 < 0
   ·refine p_ 2 15 ?_
    refine p_ 3 16 ?_
    refine p_ 4 17 ?_
    refine p_ 5 18 ?_
    refine p_ 6 19 ?_
    refine p_ 7 20 ?_
    refine p_ (v := undef) 8 21 ?_ (hy := Or.inr ⟨by rfl, by rfl⟩)
    refine p_ (v := undef) 9 22 ?_ (hy := Or.inr ⟨by rfl, by rfl⟩)
    refine p_ (v := undef) 10 23 ?_ (hy := Or.inr ⟨by rfl, by rfl⟩)
    refine p_ 11 24 ?_
    refine p_ 12 25 ?_
    refine p_ (v := undef) 13 26 ?_ (hy := Or.inr ⟨by rfl, by rfl⟩)
    refine p_ (v := undef) 14 27 ?_ (hy := Or.inr ⟨by rfl, by rfl⟩)
    refine p_ 15 28 ?_
    refine p_ 16 29 ?_
    refine p_ (v := undef) 17 30 ?_ (hy := Or.inr ⟨by rfl, by rfl⟩)
    refine p_ (v := undef) 18 31 ?_ (hy := Or.inr ⟨by rfl, by rfl⟩)
    refine p_ (v := undef) 19 32 ?_ (hy := Or.inr ⟨by rfl, by rfl⟩)
    refine p_ 20 33 ?_
    refine p_ 21 34 ?_
    refine p_ (v := undef) 22 35 ?_ (hy := Or.inr ⟨by rfl, by rfl⟩)
    refine p_ (v := undef) 23 36 ?_ (hy := Or.inr ⟨by rfl, by rfl⟩)
    refine p_ (v := undef) 24 37 ?_ (hy := Or.inr ⟨by rfl, by rfl⟩)
    refine p_ (v := undef) 25 38 ?_ (hy := Or.inr ⟨by rfl, by rfl⟩)
    refine p_ (v := undef) 26 39 ?_ (hy := Or.inr ⟨by rfl, by rfl⟩)
    refine p_ (v := undef) 27 40 ?_ (hy := Or.inr ⟨by rfl, by rfl⟩)
    refine p_ (v := undef) 28 41 ?_ (hy := Or.inr ⟨by rfl, by rfl⟩)
    refine p_ (v := undef) 29 42 ?_ (hy := Or.inr ⟨by rfl, by rfl⟩)
    refine p_ (v := undef) 30 43 ?_ (hy := Or.inr ⟨by rfl, by rfl⟩)
    refine p_ (v := undef) 31 44 ?_ (hy := Or.inr ⟨by rfl, by rfl⟩)
    refine p_ (v := undef) 32 45 ?_ (hy := Or.inr ⟨by rfl, by rfl⟩)
    refine p_ (v := undef) 33 46 ?_ (hy := Or.inr ⟨by rfl, by rfl⟩)
    refine p_ (v := undef) 34 47 ?_ (hy := Or.inr ⟨by rfl, by rfl⟩)
    refine p_ 35 48 ?_
    refine d_ ?_
    clear hHeld
    go_wp2_with (fail)
    go_ret
    exact ⟨by rw [HRF.out]; rfl, HB.out⟩
   ·by_cases g2 : a2 ≥ (l0_2.length : Int)
    ·refine p_ 2 15 ?_
     refine p_ 3 16 ?_
     refine p_ 4 17 ?_
     refine p_ 5 18 ?_
     refine p_ 6 19 ?_
     refine p_ 7 20 ?_
     refine p_ 8 21 ?_
     refine p_ 9 22 ?_
     refine p_ 10 23 ?_
     refine p_ 11 24 ?_
     refine p_ 12 25 ?_
     refine p_ (v := undef) 13 26 ?_ (hy := Or.inr ⟨by rfl, by rfl⟩)
     refine p_ (v := undef) 14 27 ?_ (hy := Or.inr ⟨by rfl, by rfl⟩)
     refine p_ 15 28 ?_
     refine p_ 16 29 ?_
     refine p_ (v := undef) 17 30 ?_ (hy := Or.inr ⟨by rfl, by rfl⟩)
     refine p_ (v := undef) 18 31 ?_ (hy := Or.inr ⟨by rfl, by rfl⟩)
     refine p_ (v := undef) 19 32 ?_ (hy := Or.inr ⟨by rfl, by rfl⟩)
     refine p_ 20 33 ?_
     refine p_ 21 34 ?_
     refine p_ (v := undef) 22 35 ?_ (hy := Or.inr ⟨by rfl, by rfl⟩)
     refine p_ (v := undef) 23 36 ?_ (hy := Or.inr ⟨by rfl, by rfl⟩)
     refine p_ (v := undef) 24 37 ?_ (hy := Or.inr ⟨by rfl, by rfl⟩)
     refine p_ (v := undef) 25 38 ?_ (hy := Or.inr ⟨by rfl, by rfl⟩)
     refine p_ (v := undef) 26 39 ?_ (hy := Or.inr ⟨by rfl, by rfl⟩)
     refine p_ (v := undef) 27 40 ?_ (hy := Or.inr ⟨by rfl, by rfl⟩)
     refine p_ (v := undef) 28 41 ?_ (hy := Or.inr ⟨by rfl, by rfl⟩)
     refine p_ (v := undef) 29 42 ?_ (hy := Or.inr ⟨by rfl, by rfl⟩)
     refine p_ (v := undef) 30 43 ?_ (hy := Or.inr ⟨by rfl, by rfl⟩)
     refine p_ (v := undef) 31 44 ?_ (hy := Or.inr ⟨by rfl, by rfl⟩)
     refine p_ (v := undef) 32 45 ?_ (hy := Or.inr ⟨by rfl, by rfl⟩)
     refine p_ (v := undef) 33 46 ?_ (hy := Or.inr ⟨by rfl, by rfl⟩)
     refine p_ (v := undef) 34 47 ?_ (hy := Or.inr ⟨by rfl, by rfl⟩)
     refine p_ 35 48 ?_
     refine d_ ?_
     clear hHeld
     go_wp2_with (fail)
     go_ret
     exact ⟨by rw [HRF.out]; rfl, HB.out⟩
    ·by_cases g3 : a3 < 0
     ·refine p_ 2 15 ?_
      refine p_ 3 16 ?_
      refine p_ 4 17 ?_
      refine p_ 5 18 ?_
      refine p_ 6 19 ?_
      refine p_ 7 20 ?_
      refine p_ 8 21 ?_
      refine p_ 9 22 ?_
      refine p_ 10 23 ?_
      refine p_ 11 24 ?_
      refine p_ 12 25 ?_
      refine p_ 13 26 ?_
      refine p_ 14 27 ?_
      refine p_ 15 28 ?_
      refine p_ 16 29 ?_
      refine p_ (v := undef) 17 30 ?_ (hy := Or.inr ⟨by rfl, by rfl⟩)
      refine p_ (v := undef) 18 31 ?_ (hy := Or.inr ⟨by rfl, by rfl⟩)
      refine p_ (v := undef) 19 32 ?_ (hy := Or.inr ⟨by rfl, by rfl⟩)
      refine p_ 20 33 ?_
      refine p_ 21 34 ?_
      refine p_ (v := undef) 22 35 ?_ (hy := Or.inr ⟨by rfl, by rfl⟩)
      refine p_ (v := undef) 23 36 ?_ (hy := Or.inr ⟨by rfl, by rfl⟩)
      refine p_ (v := undef) 24 37 ?_ (hy := Or.inr ⟨by rfl, by rfl⟩)
      refine p_ (v := undef) 25 38 ?_ (hy := Or.inr ⟨by rfl, by rfl⟩)
      refine p_ (v := undef) 26 39 ?_ (hy := Or.inr ⟨by rfl, by rfl⟩)
      refine p_ (v := undef) 27 40 ?_ (hy := Or.inr ⟨by rfl, by rfl⟩)
      refine p_ (v := undef) 28 41 ?_ (hy := Or.inr ⟨by rfl, by rfl⟩)
      refine p_ (v := undef) 29 42 ?_ (hy := Or.inr ⟨by rfl, by rfl⟩)
      refine p_ (v := undef) 30 43 ?_ (hy := Or.inr ⟨by rfl, by rfl⟩)
      refine p_ (v := undef) 31 44 ?_ (hy := Or.inr ⟨by rfl, by rfl⟩)
      refine p_ (v := undef) 32 45 ?_ (hy := Or.inr ⟨by rfl, by rfl⟩)
      refine p_ (v := undef) 33 46 ?_ (hy := Or.inr ⟨by rfl, by rfl⟩)
      refine p_ (v := undef) 34 47 ?_ (hy := Or.inr ⟨by rfl, by rfl⟩)
      refine p_ 35 48 ?_
      refine d_ ?_
      clear hHeld
      go_wp2_with (fail)
      go_ret
      exact ⟨by rw [HRF.out]; rfl, HB.out⟩
     ·have g4 : a3 ≥ (l0_2.length : Int) := by have := HG.out; omega
      refine p_ 2 15 ?_
      refine p_ 3 16 ?_
      refine p_ 4 17 ?_
      refine p_ 5 18 ?_
      refine p_ 6 19 ?_
      refine p_ 7 20 ?_
      refine p_ 8 21 ?_
      refine p_ 9 22 ?_
      refine p_ 10 23 ?_
      refine p_ 11 24 ?_
      refine p_ 12 25 ?_
      refine p_ 13 26 ?_
      refine p_ 14 27 ?_
      refine p_ 15 28 ?_
      refine p_ 16 29 ?_
      refine p_ 17 30 ?_
      refine p_ 18 31 ?_
      refine p_ 19 32 ?_
      refine p_ 20 33 ?_
      refine p_ 21 34 ?_
      refine p_ (v := undef) 22 35 ?_ (hy := Or.inr ⟨by rfl, by rfl⟩)
      refine p_ (v := undef) 23 36 ?_ (hy := Or.inr ⟨by rfl, by rfl⟩)
      refine p_ (v := undef) 24 37 ?_ (hy := Or.inr ⟨by rfl, by rfl⟩)
      refine p_ (v := undef) 25 38 ?_ (hy := Or.inr ⟨by rfl, by rfl⟩)
      refine p_ (v := undef) 26 39 ?_ (hy := Or.inr ⟨by rfl, by rfl⟩)
      refine p_ (v := undef) 27 40 ?_ (hy := Or.inr ⟨by rfl, by rfl⟩)
      refine p_ (v := undef) 28 41 ?_ (hy := Or.inr ⟨by rfl, by rfl⟩)
      refine p_ (v := undef) 29 42 ?_ (hy := Or.inr ⟨by rfl, by rfl⟩)
      refine p_ (v := undef) 30 43 ?_ (hy := Or.inr ⟨by rfl, by rfl⟩)
      refine p_ (v := undef) 31 44 ?_ (hy := Or.inr ⟨by rfl, by rfl⟩)
      refine p_ (v := undef) 32 45 ?_ (hy := Or.inr ⟨by rfl, by rfl⟩)
      refine p_ (v := undef) 33 46 ?_ (hy := Or.inr ⟨by rfl, by rfl⟩)
      refine p_ (v := undef) 34 47 ?_ (hy := Or.inr ⟨by rfl, by rfl⟩)
      refine p_ 35 48 ?_
      refine d_ ?_
      clear hHeld
      go_wp2_with (fail)
      go_ret
      exact ⟨by rw [HRF.out]; rfl, HB.out⟩
  ·have g5 : (ck == 0) = false := by simpa using g0
   have g6 : (ck != 0) = true := by simpa using g0
   clear HG
   refine p_ 2 15 ?_
   refine p_ 3 16 ?_
   refine p_ (v := undef) 4 17 ?_ (hy := Or.inr ⟨by rfl, by rfl⟩)
   refine p_ (v := undef) 5 18 ?_ (hy := Or.inr ⟨by rfl, by rfl⟩)
   refine p_ 6 19 ?_
   refine p_ 7 20 ?_
   refine p_ (v := undef) 8 21 ?_ (hy := Or.inr ⟨by rfl, by rfl⟩)
   refine p_ (v := undef) 9 22 ?_ (hy := Or.inr ⟨by rfl, by rfl⟩)
   refine p_ (v := undef) 10 23 ?_ (hy := Or.inr ⟨by rfl, by rfl⟩)
   refine p_ 11 24 ?_
   refine p_ 12 25 ?_
   refine p_ (v := undef) 13 26 ?_ (hy := Or.inr ⟨by rfl, by rfl⟩)
   refine p_ (v := undef) 14 27 ?_ (hy := Or.inr ⟨by rfl, by rfl⟩)
   refine p_ 15 28 ?_
   refine p_ 16 29 ?_
   refine p_ (v := undef) 17 30 ?_ (hy := Or.inr ⟨by rfl, by rfl⟩)
   refine p_ (v := undef) 18 31 ?_ (hy := Or.inr ⟨by rfl, by rfl⟩)
   refine p_ (v := undef) 19 32 ?_ (hy := Or.inr ⟨by rfl, by rfl⟩)
   refine p_ 20 33 ?_
   refine p_ 21 34 ?_
   refine p_ (v := undef) 22 35 ?_ (hy := Or.inr ⟨by rfl, by rfl⟩)
   refine p_ (v := undef) 23 36 ?_ (hy := Or.inr ⟨by rfl, by rfl⟩)
   refine p_ (v := undef) 24 37 ?_ (hy := Or.inr ⟨by rfl, by rfl⟩)
   refine p_ (v := undef) 25 38 ?_ (hy := Or.inr ⟨by rfl, by rfl⟩)
   refine p_ (v := undef) 26 39 ?_ (hy := Or.inr ⟨by rfl, by rfl⟩)
   refine p_ (v := undef) 27 40 ?_ (hy := Or.inr ⟨by rfl, by rfl⟩)
   refine p_ (v := undef) 28 41 ?_ (hy := Or.inr ⟨by rfl, by rfl⟩)
   refine p_ (v := undef) 29 42 ?_ (hy := Or.inr ⟨by rfl, by rfl⟩)
   refine p_ (v := undef) 30 43 ?_ (hy := Or.inr ⟨by rfl, by rfl⟩)
   refine p_ (v := undef) 31 44 ?_ (hy := Or.inr ⟨by rfl, by rfl⟩)
   refine p_ (v := undef) 32 45 ?_ (hy := Or.inr ⟨by rfl, by rfl⟩)
   refine p_ (v := undef) 33 46 ?_ (hy := Or.inr ⟨by rfl, by rfl⟩)
   refine p_ (v := undef) 34 47 ?_ (hy := Or.inr ⟨by rfl, by rfl⟩)
   refine p_ 35 48 ?_
   refine d_ ?_
   clear hHeld
   go_wp2_with (fail)
   go_ret
   exact ⟨by rw [HRF.out]; rfl, HB.out⟩
 have hck : chk46 l0_0 l0_1 l0_2 = 0 := by
  by_cases h : chk46 l0_0 l0_1 l0_2 = 0
  ·exact h
  ·exact absurd (.inl h) hg
 have HOK := Aside0.mk (chk46_ok hck)
 have HCK := Aside0.mk hck
 have HG := Aside0.mk hg
 obtain ⟨kl, hkl⟩ := HLV.out hck
 have HKL := Aside0.mk (hkl kl (Nat.le_refl _))
 rw [hck]
 obtain ⟨a, rfl⟩ : ∃ a : Nat, a2 = (a : Int) := ⟨a2.toNat, by omega⟩
 obtain ⟨b, rfl⟩ : ∃ b : Nat, a3 = (b : Int) := ⟨a3.toNat, by omega⟩
 have hal : a < l0_2.length := by omega
 have hbl : b < l0_2.length := by omega
 obtain ⟨pb, po, rfl⟩ := pc_at HPC.out hal
 have HP0 := Aside0.mk (Kd.C_below HPC.out HB0.out)
 obtain ⟨xA, xc, hxl, hxC, q0, x1, q2, q3, q4, q5, q6, q7⟩ := pc_get HP0.out hal
 obtain ⟨yA, yc, hyl, hyC, y0, u1, u2, u3, u4, u5, u6, u7⟩ := pc_get HP0.out hbl
 clear hxl hxC hyl hyC q0 q2 q3 q4 q5 q6 q7 u1 u2 u3 u4 u5 u6 u7
 have HXN := Aside0.mk (HOK.out _ (rd_mem hal))
 have HYN := Aside0.mk (HOK.out _ (rd_mem hbl))
 have HPA := Aside0.mk (fun (v : Nat) (hv : (rd_T58 l0_2 (b : Int)).f0 = (v : Int)) (h : (rd_T58 l0_2 (a : Int)).f1 = (rd_T58 l0_2 (b : Int)).f0) => perm_allow (pts := l0_1) l1 HCK.out hal hbl hv h)
 obtain ⟨x, HX⟩ : ∃ x, Aside0 (rd_T58 l0_2 (a : Int) = x) := ⟨_, ⟨rfl⟩⟩
 obtain ⟨y, HY⟩ : ∃ y, Aside0 (rd_T58 l0_2 (b : Int) = y) := ⟨_, ⟨rfl⟩⟩
 rw [HX.out] at x1 HXN HPA
 rw [HY.out] at y0 HYN HPA
 have hai : (a : Int) < (l0_2.length : Int) := by omega
 have hbi : (b : Int) < (l0_2.length : Int) := by omega
 have ga : decide ((a : Int) < 0) = false := decide_eq_false (by omega)
 have ga2 : decide (l0_2.length ≤ a) = false := decide_eq_false (by omega)
 have gb : decide ((b : Int) < 0) = false := decide_eq_false (by omega)
 have gb2 : decide (l0_2.length ≤ b) = false := decide_eq_false (by omega)
 clear hg hck hkl
 by_cases hxy : x.f1 = y.f0
 rotate_left
 ·have HRF : Aside0 (r = false) := ⟨by rw [← HR.out, allowB, if_neg HG.out, HX.out, HY.out, if_pos hxy]⟩
  have g1 : (x.f1 == y.f0) = false := by simpa using hxy
  have g2 : (x.f1 != y.f0) = true := by simpa using hxy
  clear hxy
  refine p_ 2 15 ?_
  refine p_ 3 16 ?_
  refine p_ 4 17 ?_
  refine p_ 5 18 ?_
  refine p_ 6 19 ?_
  refine p_ 7 20 ?_
  refine p_ 8 21 ?_
  refine p_ 9 22 ?_
  refine p_ 10 23 ?_
  refine p_ 11 24 ?_
  refine p_ 12 25 ?_
  refine p_ 13 26 ?_
  refine p_ 14 27 ?_
  refine p_ 15 28 ?_
  refine p_ 16 29 ?_
  refine p_ 17 30 ?_
  refine p_ 18 31 ?_
  refine p_ 19 32 ?_
  refine p_ 20 33 ?_
  refine p_ 21 34 ?_
  refine p_ 22 35 ?_
  refine t1_ 23 36 hHeld ?_ (hy := Or.inl ⟨by rfl, by rintro w' s0; have g0 := pw_cell_below s0 d2; go_simp; with_reducible rfl⟩)
  refine p_ 24 37 ?_
  refine p_ 25 38 ?_
  refine p_ 26 39 ?_
  refine t1_ 27 40 hHeld ?_ (hy := Or.inl ⟨by rfl, by rintro w' s0; have g0 := pw_cell_below s0 x1; go_simp; with_reducible rfl⟩)
  refine p_ 28 41 ?_
  refine t1_ 29 42 hHeld ?_ (hy := Or.inl ⟨by rfl, by rintro w' s0; have g0 := pw_cell_below s0 d2; go_simp; with_reducible rfl⟩)
  refine p_ 30 43 ?_
  refine p_ 31 44 ?_
  refine p_ 32 45 ?_
  refine t1_ 33 46 hHeld ?_ (hy := Or.inl ⟨by rfl, by rintro w' s0; have g0 := pw_cell_below s0 y0; go_simp; with_reducible rfl⟩)
  refine p_ 34 47 ?_
  refine p_ 35 48 ?_
  refine d_ ?_
  clear hHeld
  go_wp2_with (fail)
  go_ret
  exact ⟨by rw [HRF.out]; rfl, HB.out⟩
 have g1 : (x.f1 == y.f0) = true := by simpa using hxy
 have g2 : (x.f1 != y.f0) = false := by simpa using hxy
 have HXY := Aside0.mk hxy
 clear hxy
 refine p_ 2 15 ?_
 refine p_ 3 16 ?_
 refine p_ 4 17 ?_
 refine p_ 5 18 ?_
 refine p_ 6 19 ?_
 refine p_ 7 20 ?_
 refine p_ 8 21 ?_
 refine p_ 9 22 ?_
 refine p_ 10 23 ?_
 refine p_ 11 24 ?_
 refine p_ 12 25 ?_
 refine p_ 13 26 ?_
 refine p_ 14 27 ?_
 refine p_ 15 28 ?_
 refine p_ 16 29 ?_
 refine p_ 17 30 ?_
 refine p_ 18 31 ?_
 refine p_ 19 32 ?_
 refine p_ 20 33 ?_
 refine p_ 21 34 ?_
 refine p_ 22 35 ?_
 refine t1_ 23 36 hHeld ?_ (hy := Or.inl ⟨by rfl, by rintro w' s0; have g0 := pw_cell_below s0 d2; go_simp; with_reducible rfl⟩)
 refine p_ 24 37 ?_
 refine p_ 25 38 ?_
 refine p_ 26 39 ?_
 refine t1_ 27 40 hHeld ?_ (hy := Or.inl ⟨by rfl, by rintro w' s0; have g0 := pw_cell_below s0 x1; go_simp; with_reducible rfl⟩)
 refine p_ 28 41 ?_
 refine t1_ 29 42 hHeld ?_ (hy := Or.inl ⟨by rfl, by rintro w' s0; have g0 := pw_cell_below s0 d2; go_simp; with_reducible rfl⟩)
 refine p_ 30 43 ?_
 refine p_ 31 44 ?_
 refine p_ 32 45 ?_
 refine t1_ 33 46 hHeld ?_ (hy := Or.inl ⟨by rfl, by rintro w' s0; have g0 := pw_cell_below s0 y0; go_simp; with_reducible rfl⟩)
 refine p_ 34 47 ?_
 refine p_ 35 48 ?_
 refine d_ ?_
 clear hHeld g1 g2 ga ga2 gb gb2
 obtain ⟨v, hv⟩ := Int.eq_ofNat_of_zero_le (show 0 ≤ y.f0 from by have := HYN.out; unfold pcBad at this; omega)
 have HV := Aside0.mk hv
 have hvn : v < l0_0.length := by have := HYN.out; unfold pcBad at this; omega
 rw [hv] at y0
 replace y0 := pw_cell_below HWH.out y0
 replace d0 := pw_cell_below HWH.out d0
 replace d1 := pw_cell_below HWH.out d1
 replace d2 := pw_cell_below HWH.out d2
 have HRL := Aside0.mk (rowsTo_len l0_0.length l0_2 l0_2.length)
 have HRV : Aside0 (allowB l0_0 l0_1 l0_2 l1 (a : Int) (b : Int) = r) := HR
 clear hv x1 HR HG HWH
 go_upto_region 4 with (fail)
 refine s_ (fun w' => Below w1.heap.size w1 w') [] (below_drew (Below.refl _ _)) (fun hHeld => ?_)
 refine t1_ 0 49 hHeld ?_ (hy := Or.inl ⟨by rfl, by rintro w' s0; have g0 := pw_cell_below s0 d0; have g1 := pw_cell_below s0 d1; have g2 := pw_cell_below s0 d2; go_simp; with_reducible rfl⟩)
 refine p_ 1 50 ?_
 refine t1_ 2 51 hHeld ?_ (hy := Or.inl ⟨by rfl, by rintro w' s0; have g0 := pw_cell_below s0 d0; have g1 := pw_cell_below s0 d1; have g2 := pw_cell_below s0 d2; go_simp; with_reducible rfl⟩)
 refine p_ 4 53 ?_
 refine t1_ 5 54 hHeld ?_ (hy := Or.inl ⟨by rfl, by rintro w' s0; have g0 := pw_cell_below s0 d2; go_simp; with_reducible rfl⟩)
 refine p_ 6 55 ?_
 refine p_ 7 56 ?_
 refine p_ 8 57 ?_
 refine t1_ 9 58 hHeld ?_ (hy := Or.inl ⟨by rfl, by rintro w' s0; have g0 := pw_cell_below s0 y0; go_simp; with_reducible rfl⟩)
 refine p_ 12 61 ?_
 refine p_ 13 62 ?_
 refine o_ 3 52 (fun K hK => ?_)
 refine goes_ Try.func38 (by kernel_rfl) rfl #[.agg #[.slice A0_0 l0_0.length c0_0, .slice A0_1 l0_1.length c0_1, .slice (some ⟨pb, po, none⟩) l0_2.length c0_2]] (by rfl) rfl rfl byL ?_
 refine (turns_leaving.calls kl A0_0 c0_0 l0_0 A0_1 c0_1 l0_1 _ c0_2 l0_2 (rowsTo l0_0.length l0_2 l0_2.length) _ (Kd.C_below (Kd.C_below HN.out HB.out) hHeld) HNC.out (Kd.C_below (Kd.C_below HPT.out HB.out) hHeld) HPTC.out (Kd.C_below (Kd.C_below HPC.out HB.out) hHeld) HPCC.out HKL.out).mono ?_
 rintro e w2 ⟨vr, rfl, hS, hb1⟩
 obtain ⟨RA, rc, rfl⟩ := Kd.S_slice hS
 refine ⟨_, rfl, ?_⟩
 have hb2 := below_then hHeld hHeld.size hb1
 refine hK.out _ _ hb2 (fun hHeld => ?_)
 have HB2 := Aside0.mk (below_then HB.out HB.out.size hb2)
 have HRC := Aside0.mk (Kd.S_reads' hS).2.2
 clear hK K hb1 hb2 hS d0 d1 d2 y0
 refine n_ 52 ?_
 obtain ⟨rb, ro, rfl⟩ := rw_at HRC.out (i := v) (by have := HRL.out; omega)
 obtain ⟨qA, qc, q0, hql, hqC⟩ := rw_get HRC.out (i := v) (by have := HRL.out; omega)
 rw [rowsTo_get l0_2 l0_2.length hvn] at q0 hql hqC
 have HROK : Aside0 (∀ i ∈ leavA l0_2 v l0_2.length, 0 ≤ i ∧ i < (l0_2.length : Int)) := ⟨fun i hi => by
  obtain ⟨j, hj, _, rfl⟩ := leavA_mem.1 hi
  omega⟩
 have HPV : Aside0 (permB l0_0 l0_2 l1 (leavA l0_2 v l0_2.length) (a : Int) (b : Int) = r) := ⟨by rw [HPA.out v HV.out HXY.out]; exact HRV.out⟩
 obtain ⟨row, HRE⟩ : ∃ row, Aside0 (leavA l0_2 v l0_2.length = row) := ⟨_, ⟨rfl⟩⟩
 rw [HRE.out] at q0 hql hqC HROK HPV
 obtain ⟨nr, HNR⟩ : ∃ nr, Aside0 ((rowsTo l0_0.length l0_2 l0_2.length).length = nr) := ⟨_, ⟨rfl⟩⟩
 have hvr : (v : Int) < (nr : Int) := by have h1 := HRL.out; have h2 := HNR.out; omega
 rw [HNR.out]
 have HQC := Aside0.mk hqC
 have HQL := Aside0.mk hql
 clear hqC hql
 refine p_ 10 59 ?_
 refine o_ 11 60 (fun K hK => ?_)
 refine value_ (w1 := ?_) (v := ?_) (by rfl) rfl ?_ ?_; rotate_left 2; (·go_simp; constructor; (·rfl); (·rfl))
 refine hK.out _ _ hHeld (fun hHeld => ?_)
 clear hK K q0
 refine n_ 60 ?_
 have HPOK : Aside0 (turns_permitted.f l0_0 l0_1 l0_2 l1 row (a : Int) (b : Int) = some r) := ⟨by
  unfold turns_permitted.f
  rw [if_pos ⟨by omega, by omega, by omega, by omega, HROK.out, by rw [HX.out]; have := HXN.out; unfold pcBad at this; omega, by rw [HX.out]; have := HXN.out; unfold pcBad at this; omega⟩, HPV.out]⟩
 refine o_ 14 63 (fun K hK => ?_)
 refine goes_ Try.func37 (by kernel_rfl) rfl #[.agg #[.slice A0_0 l0_0.length c0_0, .slice A0_1 l0_1.length c0_1, .slice (some ⟨pb, po, none⟩) l0_2.length c0_2], .slice A1 l1.length c1, .slice qA row.length qc, .int .i64 (a : Int), .int .i64 (b : Int)] (by rfl) rfl rfl byL ?_
 refine (turns_permitted.calls A0_0 c0_0 l0_0 A0_1 c0_1 l0_1 _ c0_2 l0_2 A1 c1 l1 qA qc row (a : Int) (b : Int) r _ (Kd.C_below HN.out HB2.out) HNC.out (Kd.C_below HPT.out HB2.out) HPTC.out (Kd.C_below HPC.out HB2.out) HPCC.out (Kd.C_below HT.out HB2.out) HTC.out HQC.out HQL.out HPOK.out).mono ?_
 rintro e w3 ⟨rfl, hb4⟩
 refine ⟨_, rfl, ?_⟩
 have hb5 := below_then hHeld hHeld.size hb4
 refine hK.out _ _ hb5 (fun hHeld => ?_)
 have HB3 := Aside0.mk (below_then HB2.out HB2.out.size hb4)
 clear hK K hb4 hb5
 refine n_ 63 ?_
 refine p_ 15 8 ?_
 refine d_ ?_
 clear hHeld
 go_wp2_with (fail)
 go_ret
 exact ⟨rfl, HB3.out⟩
attribute [local go_sem] max2_int min2_int max_two min_two max_three min_three max_four min_four
set_option linter.unusedVariables false
set_option linter.unusedSimpArgs false
set_option maxHeartbeats 1600000 in
set_option maxRecDepth 100000 in
theorem data_checkNodes.nil0 (w : World) (m1 m2 : Nat) : Calls Try.prog 47 #[.agg #[.slice none 0 0, .slice none 0 0, .slice none 0 0, .map (some m1), .map (some m2)]] w fun e w' => e = .returned (.int .i64 0) ∧ Below w.heap.size w w' := by
 go_enter Try.func47, Try.ntmps47
 go_wp2_with (fail)
 go_loop [10] (fun i => i = .int .i64 0) (fun _ => 0)
 case atStart => exact rfl
 case round =>
  obtain rfl := hrel
  go_wp2_with (fail)
  go_ret
  exact ⟨rfl, (Below.refl _ _).alloc (Nat.le_refl _) _⟩
set_option maxHeartbeats 1600000 in
set_option maxRecDepth 100000 in
theorem data_checkWays.nil0 (w : World) (m1 m2 : Nat) : Calls Try.prog 48 #[.agg #[.slice none 0 0, .slice none 0 0, .slice none 0 0, .map (some m1), .map (some m2)]] w fun e w' => e = .returned (.int .i64 0) ∧ Below w.heap.size w w' := by
 go_enter Try.func48, Try.ntmps48
 go_wp2_with (fail)
 go_loop [10] (fun i => i = .int .i64 0) (fun _ => 0)
 case atStart => exact rfl
 case round =>
  obtain rfl := hrel
  go_wp2_with (fail)
  go_ret
  exact ⟨rfl, (Below.refl _ _).alloc (Nat.le_refl _) _⟩
set_option maxHeartbeats 1600000 in
set_option maxRecDepth 100000 in
theorem data_checkRels.nil0 (w : World) (m1 m2 : Nat) : Calls Try.prog 49 #[.agg #[.slice none 0 0, .slice none 0 0, .slice none 0 0, .map (some m1), .map (some m2)]] w fun e w' => e = .returned (.int .i64 0) ∧ Below w.heap.size w w' := by
 go_enter Try.func49, Try.ntmps49
 go_wp2_with (fail)
 go_loop [10] (fun i => i = .int .i64 0) (fun _ => 0)
 case atStart => exact rfl
 case round =>
  obtain rfl := hrel
  go_wp2_with (fail)
  go_ret
  exact ⟨rfl, (Below.refl _ _).alloc (Nat.le_refl _) _⟩
set_option maxHeartbeats 3200000 in
set_option maxRecDepth 100000 in
theorem data_Check.nil0 (w : World) : Calls Try.prog 30 #[.agg #[.slice none 0 0, .slice none 0 0, .slice none 0 0]] w fun e w' => e = .returned (.int .i64 0) ∧ Below w.heap.size w w' := by
 have hmk := @run_makeMap Try.prog
 go_enter Try.func30, Try.ntmps30
 go_wp2_with (fail)
 go_loop [29] (fun i => i = .int .i64 0) (fun _ => 0)
 case atStart => exact rfl
 case round =>
  obtain rfl := hrel
  go_wp2_with (fail)
  go_loop [41] (fun i => i = .int .i64 0) (fun _ => 0)
  case atStart => exact rfl
  case round =>
   obtain rfl := hrel
   go_wp2_with (fail)
   have HB := Aside0.mk ((((((Below.refl w.heap.size w).alloc (Nat.le_refl _) (Obj.cells #[.slice none 0 0, .slice none 0 0, .slice none 0 0] 26)).alloc (by simp only [World.size_alloc]; omega) (Obj.map #[] 0)).alloc (by simp only [World.size_alloc]; omega) (Obj.map #[] 0)).alloc (by simp only [World.size_alloc]; omega) (Obj.cells #[.slice none 0 0, .slice none 0 0, .slice none 0 0, .map (some (w.heap.size + 1)), .map (some (w.heap.size + 1 + 1))] 99)).alloc (by simp only [World.size_alloc]; omega) (Obj.cells #[.func (Fn.func 47) #[] #[], .func (Fn.func 48) #[] #[], .func (Fn.func 49) #[] #[]] 100))
   have HF := Aside0.mk (heap_alloc_new ((((w.alloc (Obj.cells #[.slice none 0 0, .slice none 0 0, .slice none 0 0] 26)).alloc (Obj.map #[] 0)).alloc (Obj.map #[] 0)).alloc (Obj.cells #[.slice none 0 0, .slice none 0 0, .slice none 0 0, .map (some (w.heap.size + 1)), .map (some (w.heap.size + 1 + 1))] 99)) (Obj.cells #[.func (Fn.func 47) #[] #[], .func (Fn.func 48) #[] #[], .func (Fn.func 49) #[] #[]] 100))
   have HC := Aside0.mk (blk_alloc (heap_alloc_new (((w.alloc (Obj.cells #[.slice none 0 0, .slice none 0 0, .slice none 0 0] 26)).alloc (Obj.map #[] 0)).alloc (Obj.map #[] 0)) (Obj.cells #[.slice none 0 0, .slice none 0 0, .slice none 0 0, .map (some (w.heap.size + 1)), .map (some (w.heap.size + 1 + 1))] 99)) (Obj.cells #[.func (Fn.func 47) #[] #[], .func (Fn.func 48) #[] #[], .func (Fn.func 49) #[] #[]] 100))
   simp only [World.size_alloc] at HF HC
   generalize ((((w.alloc (Obj.cells #[.slice none 0 0, .slice none 0 0, .slice none 0 0] 26)).alloc (Obj.map #[] 0)).alloc (Obj.map #[] 0)).alloc (Obj.cells #[.slice none 0 0, .slice none 0 0, .slice none 0 0, .map (some (w.heap.size + 1)), .map (some (w.heap.size + 1 + 1))] 99)).alloc (Obj.cells #[.func (Fn.func 47) #[] #[], .func (Fn.func 48) #[] #[], .func (Fn.func 49) #[] #[]] 100) = wl at HB HF HC ⊢
   generalize w.heap.size + 1 + 1 + 1 + 1 = b4 at HF ⊢
   go_loopw [52] (fun i wr => ∃ k : Nat, i = .int .i64 (k : Int) ∧ k ≤ 3 ∧ Aside0 (Below wl.heap.size wl wr)) (fun i _ => 3 - (intOf i).toNat)
   case atStart => exact ⟨0, rfl, by omega, ⟨Below.refl _ _⟩⟩
   case round =>
    obtain ⟨k, rfl, hk, HBL⟩ := hrel
    have e0 : wr.cell? ⟨w.heap.size + 1 + 1 + 1, 0, none⟩ = some (.slice none 0 0) := blk_cell (blk_below HC.out HBL.out) 0
    have e1 : wr.cell? ⟨w.heap.size + 1 + 1 + 1, 1, none⟩ = some (.slice none 0 0) := blk_cell (blk_below HC.out HBL.out) 1
    have e2 : wr.cell? ⟨w.heap.size + 1 + 1 + 1, 2, none⟩ = some (.slice none 0 0) := blk_cell (blk_below HC.out HBL.out) 2
    have e3 : wr.cell? ⟨w.heap.size + 1 + 1 + 1, 3, none⟩ = some (.map (some (w.heap.size + 1))) := blk_cell (blk_below HC.out HBL.out) 3
    have e4 : wr.cell? ⟨w.heap.size + 1 + 1 + 1, 4, none⟩ = some (.map (some (w.heap.size + 1 + 1))) := blk_cell (blk_below HC.out HBL.out) 4
    rcases (show k = 0 ∨ k = 1 ∨ k = 2 ∨ k = 3 by omega) with rfl | rfl | rfl | rfl
    ·have cf : wr.cell? ⟨b4, 0, none⟩ = some (.func (Fn.func 47) #[] #[]) := blk_cell (blk_below HF.out HBL.out) 0
     go_wp2_with (fail)
     refine (data_checkNodes.nil0 _ _ _).mono ?_
     rintro e w3 ⟨rfl, hb⟩
     have HB3 := Aside0.mk (below_then HBL.out HBL.out.size hb)
     clear hb cf
     go_wp2_with (fail)
     go_roundw
     case rel => exact ⟨0 + 1, by go_num, by omega, HB3⟩
     case measure => simp [intOf]
    ·have cf : wr.cell? ⟨b4, 1, none⟩ = some (.func (Fn.func 48) #[] #[]) := blk_cell (blk_below HF.out HBL.out) 1
     go_wp2_with (fail)
     refine (data_checkWays.nil0 _ _ _).mono ?_
     rintro e w3 ⟨rfl, hb⟩
     have HB3 := Aside0.mk (below_then HBL.out HBL.out.size hb)
     clear hb cf
     go_wp2_with (fail)
     go_roundw
     case rel => exact ⟨1 + 1, by go_num, by omega, HB3⟩
     case measure => simp [intOf]
    ·have cf : wr.cell? ⟨b4, 2, none⟩ = some (.func (Fn.func 49) #[] #[]) := blk_cell (blk_below HF.out HBL.out) 2
     go_wp2_with (fail)
     refine (data_checkRels.nil0 _ _ _).mono ?_
     rintro e w3 ⟨rfl, hb⟩
     have HB3 := Aside0.mk (below_then HBL.out HBL.out.size hb)
     clear hb cf
     go_wp2_with (fail)
     go_roundw
     case rel => exact ⟨2 + 1, by go_num, by omega, HB3⟩
     case measure => simp [intOf]
    ·go_wp2_with (fail)
     go_ret
     exact ⟨rfl, below_then HB.out HB.out.size HBL.out⟩
set_option maxHeartbeats 3200000 in
set_option maxRecDepth 100000 in
theorem turns_Of.nil0 (w : World) : Calls Try.prog 11 #[.agg #[.slice none 0 0, .slice none 0 0, .slice none 0 0]] w fun e w' => e = .returned (.slice none 0 0) ∧ Below w.heap.size w w' := by
 go_enter Try.func11, Try.ntmps11
 go_wp2_with (fail)
 have HB := Aside0.mk ((Below.refl w.heap.size w).alloc (Nat.le_refl _) (Obj.cells #[.slice none 0 0, .slice none 0 0, .slice none 0 0] 26))
 have HK := Aside0.mk (heap_alloc_new w (Obj.cells #[.slice none 0 0, .slice none 0 0, .slice none 0 0] 26))
 generalize w.alloc (Obj.cells #[.slice none 0 0, .slice none 0 0, .slice none 0 0] 26) = w1 at HB HK ⊢
 refine (data_Check.nil0 _).mono ?_
 rintro e w2 ⟨rfl, hb⟩
 replace HB := Aside0.mk (below_then HB.out HB.out.size hb)
 have c2 : w2.cell? ⟨w.heap.size, 2, none⟩ = some (.slice none 0 0) := blk_cell (blk_below HK.out hb) 2
 clear hb HK
 go_wp2_with (fail)
 go_loop [3, 14] (fun v i => v = .slice none 0 0 ∧ i = .int .i64 0) (fun _ _ => 0)
 case atStart => exact ⟨rfl, rfl⟩
 case round =>
  obtain ⟨rfl, rfl⟩ := hrel
  go_wp2_with (fail)
  go_ret
  exact ⟨rfl, HB.out⟩
attribute [local go_sem] max2_int min2_int max_two min_two max_three min_three max_four min_four   -- for this text's walks alone
set_option linter.unusedVariables false
set_option linter.unusedSimpArgs false
/-! ### mapmakerlaw47_piece: function 46 -/
def mapmakerlaw47_piece.f (a0 : Int) (a1 : Int) (a2 : Int) : Option (Int × Int × Int × Int × Int × (List (S120)) × Int × Int) := some (a0, a1, a2, 9, 1, ([] : List (S120)), 0, 0)
set_option maxHeartbeats 8000000 in
set_option maxRecDepth 100000 in
theorem mapmakerlaw47_piece.calls (a0 : Int) (a1 : Int) (a2 : Int) (r1 : Int) (r2 : Int) (r3 : Int) (r4 : Int) (r5 : Int) (r6 : List (S120)) (r7 : Int) (r8 : Int) (w : World) (h : mapmakerlaw47_piece.f a0 a1 a2 = some (r1, r2, r3, r4, r5, r6, r7, r8)) :
  Calls Try.prog 46 #[.int .i64 a0, .int .i64 a1, .int .i64 a2] w fun e w' => ∃ v5_ : Value, e = .returned (.agg #[.int .i64 r1, .int .i64 r2, .int .i64 r3, .int .i64 r4, .int .i64 r5, v5_, .int .i64 r7, .int .i64 r8]) ∧ Kd.R k120 120 w' w.heap.size (fun _ => True) v5_ r6 ∧ Below w.heap.size w w' := by
 have hu58 := Try.underlying58; have HB := Aside0.mk (Below.refl w.heap.size w)
 have H : (some (a0, a1, a2, 9, 1, ([] : List (S120)), 0, 0)) = some (r1, r2, r3, r4, r5, r6, r7, r8) := h
 clear h
 simp only [Option.some.injEq, Prod.mk.injEq] at H
 obtain ⟨rfl, rfl, rfl, rfl, rfl, rfl, rfl, rfl⟩ := H
 go_enter Try.func46, Try.ntmps46
 go_wp2_with (first | ((with_reducible refine gate_dst (N := 6) rfl ?_); refine box_event ?hg (N := 6) ?hd (cs := #[.int .i64 0, .int .i64 0, .int .i64 0, .int .i64 0, .int .i64 0, .slice none 0 0, .int .i64 0, .int .i64 0]) (t := 58) ?hr ?_; (case hd => rfl); (case hg => rfl); (case hr => first | (go_simp; done) | (go_simp; rfl)); intro gb349 hg w4 hbox hb; have n0_ := Aside0.mk (below_step (byB HB.out) hb); have n1_ := Aside0.mk (hbox); have n2_ := Aside0.mk ((by rw [hg]; exact (below_size (byB HB.out)) : w.heap.size ≤ gb349)); have n3_ := Aside0.mk ((by rw [hg]; exact (below_size (byB HB.out)) : w.heap.size ≤ gb349)); clear HB; have HB := n0_; have BK349 := n1_; have GW349 := n2_; have GE349 := n3_; clear n0_ n1_ n2_ n3_ hb hbox hg; have hcz5_0 : w4.cell? ⟨gb349, 0, none⟩ = some (.int .i64 0) := (blk_cell BK349.out 0).trans rfl; have hcz5_1 : w4.cell? ⟨gb349, 1, none⟩ = some (.int .i64 0) := (blk_cell BK349.out 1).trans rfl; have hcz5_2 : w4.cell? ⟨gb349, 2, none⟩ = some (.int .i64 0) := (blk_cell BK349.out 2).trans rfl; have hcz5_3 : w4.cell? ⟨gb349, 3, none⟩ = some (.int .i64 0) := (blk_cell BK349.out 3).trans rfl; have hcz5_4 : w4.cell? ⟨gb349, 4, none⟩ = some (.int .i64 0) := (blk_cell BK349.out 4).trans rfl; have hcz5_5 : w4.cell? ⟨gb349, 5, none⟩ = some (.slice none 0 0) := (blk_cell BK349.out 5).trans rfl; have hcz5_6 : w4.cell? ⟨gb349, 6, none⟩ = some (.int .i64 0) := (blk_cell BK349.out 6).trans rfl; have hcz5_7 : w4.cell? ⟨gb349, 7, none⟩ = some (.int .i64 0) := (blk_cell BK349.out 7).trans rfl; have hfz5_0 := blk_frozen BK349.out 0; have hfz5_1 := blk_frozen BK349.out 1; have hfz5_2 := blk_frozen BK349.out 2; have hfz5_3 := blk_frozen BK349.out 3; have hfz5_4 := blk_frozen BK349.out 4; have hfz5_5 := blk_frozen BK349.out 5; have hfz5_6 := blk_frozen BK349.out 6; have hfz5_7 := blk_frozen BK349.out 7))
 refine bodyPost_ret (results_cell_row rfl _ _ gb349 58 #[.int .i64 a0, .int .i64 a1, .int .i64 a2, .int .i64 9, .int .i64 1, .slice none 0 0, .int .i64 0, .int .i64 0] (0, 0) _ rfl (by (with_reducible repeat (first | refine blk_drewN ?_ _ | refine blk_drew ?_ | refine blk_alloc ?_ _)); refine blk_put (cs := #[.int .i64 a0, .int .i64 a1, .int .i64 a2, .int .i64 9, .int .i64 1, .slice none 0 0, .int .i64 0, .int .i64 0]) ?_ 7 _ rfl; (with_reducible repeat (first | refine blk_drewN ?_ _ | refine blk_drew ?_ | refine blk_alloc ?_ _)); refine blk_put (cs := #[.int .i64 a0, .int .i64 a1, .int .i64 a2, .int .i64 9, .int .i64 1, .slice none 0 0, .int .i64 0, .int .i64 0]) ?_ 6 _ rfl; (with_reducible repeat (first | refine blk_drewN ?_ _ | refine blk_drew ?_ | refine blk_alloc ?_ _)); refine blk_put (cs := #[.int .i64 a0, .int .i64 a1, .int .i64 a2, .int .i64 9, .int .i64 1, .slice none 0 0, .int .i64 0, .int .i64 0]) ?_ 5 _ rfl; (with_reducible repeat (first | refine blk_drewN ?_ _ | refine blk_drew ?_ | refine blk_alloc ?_ _)); refine blk_put (cs := #[.int .i64 a0, .int .i64 a1, .int .i64 a2, .int .i64 9, .int .i64 0, .slice none 0 0, .int .i64 0, .int .i64 0]) ?_ 4 _ rfl; (with_reducible repeat (first | refine blk_drewN ?_ _ | refine blk_drew ?_ | refine blk_alloc ?_ _)); refine blk_put (cs := #[.int .i64 a0, .int .i64 a1, .int .i64 a2, .int .i64 0, .int .i64 0, .slice none 0 0, .int .i64 0, .int .i64 0]) ?_ 3 _ rfl; (with_reducible repeat (first | refine blk_drewN ?_ _ | refine blk_drew ?_ | refine blk_alloc ?_ _)); refine blk_put (cs := #[.int .i64 a0, .int .i64 a1, .int .i64 0, .int .i64 0, .int .i64 0, .slice none 0 0, .int .i64 0, .int .i64 0]) ?_ 2 _ rfl; (with_reducible repeat (first | refine blk_drewN ?_ _ | refine blk_drew ?_ | refine blk_alloc ?_ _)); refine blk_put (cs := #[.int .i64 a0, .int .i64 0, .int .i64 0, .int .i64 0, .int .i64 0, .slice none 0 0, .int .i64 0, .int .i64 0]) ?_ 1 _ rfl; (with_reducible repeat (first | refine blk_drewN ?_ _ | refine blk_drew ?_ | refine blk_alloc ?_ _)); refine blk_put (cs := #[.int .i64 0, .int .i64 0, .int .i64 0, .int .i64 0, .int .i64 0, .slice none 0 0, .int .i64 0, .int .i64 0]) ?_ 0 _ rfl; (with_reducible repeat (first | refine blk_drewN ?_ _ | refine blk_drew ?_ | refine blk_alloc ?_ _)); exact BK349.out) Try.underlying58 rfl (by kernel_rfl)) rfl ?_
 exact ⟨_, byE, by first | exact Kd.R_nil _ _ _ _ _ | exact Kd.N_nil _ _ _ _ _ | exact Kd.V_nil _ _ _ _ _ | exact Kd.Q_nil _ _ _ _ _ | exact Kd.S_nil _ _ _ _ _, byB1 HB.out GE349.out⟩
end Go.Proofs.Ytaodlehnfjalnaa.Print
