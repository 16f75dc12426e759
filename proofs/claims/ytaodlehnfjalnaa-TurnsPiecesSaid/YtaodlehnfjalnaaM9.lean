/- Several texts of this claim in one: HTAll, HXBel. -/
import Derived.Test.YtaodlehnfjalnaaM7
import Derived.Test.YtaodlehnfjalnaaM8
import Derived.Test.YtaodlehnfjalnaaPrint0
import Derived.Lib.SlicesCompact
namespace Go.Proofs.Ytaodlehnfjalnaa.Print
open Go.RowKit Go.Proofs.YtaodlehnfjalnaaW.PrintWords Go.Proofs.YtaodlehnfjalnaaW.PrintLast Go.Proofs.YtaodlehnfjalnaaW.PrintMore
set_option linter.unusedVariables false
set_option linter.unusedSimpArgs false
def backR (p q : S58) : Bool := decide (q.f0 = p.f1 ∧ q.f1 = p.f0 ∧ q.f2 = p.f2)
theorem back_f (p q : S58) : mapmakerref47_back.f p.f0 p.f1 p.f2 p.f3 p.f4 p.f5.f0 p.f5.f1 p.f5.f2 q.f0 q.f1 q.f2 q.f3 q.f4 q.f5.f0 q.f5.f1 q.f5.f2 = some (backR p q) := by
 unfold mapmakerref47_back.f backR
 by_cases h1 : q.f0 = p.f1
 ·by_cases h2 : q.f1 = p.f0
  ·rw [if_pos h1, if_pos h2]
   by_cases h3 : q.f2 = p.f2 <;> simp [h1, h2, h3]
  ·rw [if_pos h1, if_neg h2]
   simp [h2]
 ·rw [if_neg h1]
  simp [h1]
def onlyBack (p : S58) (r : S58) : Bool := !(decide (r.f0 = p.f1)) || backR p r
def allowB (nodes : List Int) (pts : List S158) (pcs : List S58) (l : List S42) (a b : Int) : Bool :=
 if chk46 nodes pts pcs ≠ 0 ∨ a < 0 ∨ b < 0 ∨ a ≥ (pcs.length : Int) ∨ b ≥ (pcs.length : Int) then false
 else if (rd_T58 pcs a).f1 ≠ (rd_T58 pcs b).f0 then false
 else if backR (rd_T58 pcs a) (rd_T58 pcs b) = true ∧ ¬ (pcs.all (onlyBack (rd_T58 pcs a))) = true then false
 else turnsR (rd_T58 pcs a).f2 (rd nodes (rd_T58 pcs a).f1) (rd_T58 pcs b).f2 l false false
def mapmakerref47_Allowed.f (l0_0 : List Int) (l0_1 : List S158) (l0_2 : List S58) (l1 : List S42) (a2 a3 : Int) : Option Bool := if l0_0.length ≤ 1000000 ∧ l0_2.length ≤ 1000000 then some (allowB l0_0 l0_1 l0_2 l1 a2 a3) else none
set_option maxHeartbeats 12800000 in
set_option maxRecDepth 100000 in
theorem mapmakerref47_Allowed.calls (A0_0 : Option Addr) (c0_0 : Nat) (l0_0 : List Int) (A0_1 : Option Addr) (c0_1 : Nat) (l0_1 : List S158) (A0_2 : Option Addr) (c0_2 : Nat) (l0_2 : List S58) (A1 : Option Addr) (c1 : Nat) (l1 : List S42) (a2 a3 : Int) (r : Bool) (w : World) (hr0_0 : Kd.C (Kd.int .i64) w A0_0 l0_0.length l0_0) (hc0_0 : l0_0.length ≤ c0_0) (hr0_1 : Kd.C k158 w A0_1 l0_1.length l0_1) (hc0_1 : l0_1.length ≤ c0_1) (hr0_2 : Kd.C k58 w A0_2 l0_2.length l0_2) (hc0_2 : l0_2.length ≤ c0_2) (hr1 : Kd.C k42 w A1 l1.length l1) (hc1 : l1.length ≤ c1)
  (h : mapmakerref47_Allowed.f l0_0 l0_1 l0_2 l1 a2 a3 = some r) :
  Calls Try.prog 15 #[.agg #[.slice A0_0 l0_0.length c0_0, .slice A0_1 l0_1.length c0_1, .slice A0_2 l0_2.length c0_2], .slice A1 l1.length c1, .int .i64 a2, .int .i64 a3] w fun e w' => e = .returned (.bool r) ∧ Below w.heap.size w w' := by
 unfold mapmakerref47_Allowed.f at h
 split at h
 rotate_left
 ·cases h
 rename_i hok
 injection h with h
 obtain ⟨hnl, hpl⟩ := hok
 obtain ⟨kc, hkc⟩ := rroad_ev l0_0 l0_1 l0_2 hnl hpl
 have HKC := Aside0.mk (hkc kc (Nat.le_refl _))
 have HN := Aside0.mk hr0_0
 have HPT := Aside0.mk hr0_1
 have HPC := Aside0.mk hr0_2
 have HT := Aside0.mk hr1
 have HNC := Aside0.mk hc0_0
 have HPTC := Aside0.mk hc0_1
 have HPCC := Aside0.mk hc0_2
 have HR := Aside0.mk h
 have hl1 := hr1.2.1
 unfold maxLen at hl1
 clear hr0_0 hc0_0 hr0_1 hc0_1 hr0_2 hc0_2 hr1 hc1 h hkc
 go_enter Try.func15, Try.ntmps15
 go_wp2_with (fail)
 have hba : Below w.heap.size w (w.alloc (Obj.cells #[.slice A0_0 l0_0.length c0_0, .slice A0_1 l0_1.length c0_1, .slice A0_2 l0_2.length c0_2] 37)) := (Below.refl _ _).alloc (Nat.le_refl _) _
 have HBK := Aside0.mk (heap_alloc_new w (Obj.cells #[.slice A0_0 l0_0.length c0_0, .slice A0_1 l0_1.length c0_1, .slice A0_2 l0_2.length c0_2] 37))
 have HB := Aside0.mk hba
 replace HN := Aside0.mk (Kd.C_below HN.out hba)
 replace HPT := Aside0.mk (Kd.C_below HPT.out hba)
 replace HPC := Aside0.mk (Kd.C_below HPC.out hba)
 replace HT := Aside0.mk (Kd.C_below HT.out hba)
 clear hba
 generalize w.alloc (Obj.cells #[.slice A0_0 l0_0.length c0_0, .slice A0_1 l0_1.length c0_1, .slice A0_2 l0_2.length c0_2] 37) = w0 at HB HBK HN HPT HPC HT ⊢
 refine (mapmakerref46_Check.calls kc A0_0 c0_0 l0_0 A0_1 c0_1 l0_1 A0_2 c0_2 l0_2 (chk46 l0_0 l0_1 l0_2) w0 HN.out HNC.out HPT.out HPTC.out HPC.out HPCC.out HKC.out).mono ?_
 rintro e w1 ⟨rfl, hb1⟩
 replace HBK := Aside0.mk (blk_below HBK.out hb1)
 replace HB := Aside0.mk (below_then HB.out HB.out.size hb1)
 replace HN := Aside0.mk (Kd.C_below HN.out hb1)
 replace HPC := Aside0.mk (Kd.C_below HPC.out hb1)
 replace HT := Aside0.mk (Kd.C_below HT.out hb1)
 clear hb1 HPT HKC
 have d2 : w1.cell? ⟨w.heap.size, 2, none⟩ = some (.slice A0_2 l0_2.length c0_2) := blk_cell HBK.out 2
 by_cases hg : chk46 l0_0 l0_1 l0_2 ≠ 0 ∨ a2 < 0 ∨ a3 < 0 ∨ a2 ≥ (l0_2.length : Int) ∨ a3 ≥ (l0_2.length : Int)
 ·have HRF : Aside0 (r = false) := ⟨by rw [← HR.out, allowB, if_pos hg]⟩
  have HG := Aside0.mk hg
  generalize chk46 l0_0 l0_1 l0_2 = ck at hg ⊢
  clear HG HR
  by_cases g0 : ck = 0
  ·subst g0
   by_cases g1 : a2 < 0
   ·go_wp2_with (fail)
    go_ret
    exact ⟨by rw [HRF.out]; rfl, HB.out⟩
   ·by_cases g2 : a3 < 0
    ·go_wp2_with (fail)
     go_ret
     exact ⟨by rw [HRF.out]; rfl, HB.out⟩
    ·by_cases g3 : a2 ≥ (l0_2.length : Int)
     ·go_wp2_with (fail)
      go_ret
      exact ⟨by rw [HRF.out]; rfl, HB.out⟩
     ·have g4 : a3 ≥ (l0_2.length : Int) := by omega
      clear hg
      go_wp2_with (fail)
      go_ret
      exact ⟨by rw [HRF.out]; rfl, HB.out⟩
  ·have g5 : (ck == 0) = false := by simpa using g0
   have g6 : (ck != 0) = true := by simpa using g0
   clear hg
   go_wp2_with (fail)
   go_ret
   exact ⟨by rw [HRF.out]; rfl, HB.out⟩
 have hck : chk46 l0_0 l0_1 l0_2 = 0 := by
  by_cases h : chk46 l0_0 l0_1 l0_2 = 0
  ·exact h
  ·exact absurd (.inl h) hg
 have HOK := Aside0.mk (chk46_ok hck)
 have HG := Aside0.mk hg
 rw [hck]
 obtain ⟨a, rfl⟩ : ∃ a : Nat, a2 = (a : Int) := ⟨a2.toNat, by omega⟩
 obtain ⟨b, rfl⟩ : ∃ b : Nat, a3 = (b : Int) := ⟨a3.toNat, by omega⟩
 have hal : a < l0_2.length := by omega
 have hbl : b < l0_2.length := by omega
 obtain ⟨pb, po, rfl⟩ := pc_at HPC.out hal
 obtain ⟨xA, xc, hxl, hxC, x0, x1, x2, x3, x4, x5, x6, x7⟩ := pc_get HPC.out hal
 obtain ⟨yA, yc, hyl, hyC, y0, y1, y2, y3, y4, y5, y6, y7⟩ := pc_get HPC.out hbl
 have hai : (a : Int) < (l0_2.length : Int) := by omega
 have hbi : (b : Int) < (l0_2.length : Int) := by omega
 clear hg hck
 go_upto_region 3 with (fail)
 have HXN := Aside0.mk (HOK.out _ (rd_mem hal))
 obtain ⟨x, HX⟩ : ∃ x, Aside0 (rd_T58 l0_2 (a : Int) = x) := ⟨_, ⟨rfl⟩⟩
 obtain ⟨y, HY⟩ : ∃ y, Aside0 (rd_T58 l0_2 (b : Int) = y) := ⟨_, ⟨rfl⟩⟩
 rw [HX.out] at x0 x1 x2 x3 x4 x5 x6 x7 hxl hxC HXN
 rw [HY.out] at y0 y1 y2 y3 y4 y5 y6 y7 hyl hyC
 have HXL := Aside0.mk hxl
 have HXC := Aside0.mk hxC
 have HYL := Aside0.mk hyl
 have HYC := Aside0.mk hyC
 clear hxl hxC hyl hyC
 refine s_ (fun w' => Below w1.heap.size w1 w') [] (below_drew (Below.refl _ _)) (fun hHeld => ?_)
 refine p_ 0 40 ?_
 refine t1_ 1 41 hHeld ?_ (hy := Or.inl ⟨by rfl, by rintro w' s0; have g0 := pw_cell_below s0 d2; go_simp; with_reducible rfl⟩)
 refine p_ 2 42 ?_
 refine p_ 3 43 ?_
 refine t1_ 4 44 hHeld ?_ (hy := Or.inl ⟨by rfl, by rintro w' s0; have g0 := pw_cell_below s0 x0; have g1 := pw_cell_below s0 x1; have g2 := pw_cell_below s0 x2; have g3 := pw_cell_below s0 x3; have g4 := pw_cell_below s0 x4; have g5 := pw_cell_below s0 x5; have g6 := pw_cell_below s0 x6; have g7 := pw_cell_below s0 x7; go_simp; with_reducible rfl⟩)
 refine p_ 5 45 ?_
 refine t1_ 6 46 hHeld ?_ (hy := Or.inl ⟨by rfl, by rintro w' s0; have g0 := pw_cell_below s0 d2; go_simp; with_reducible rfl⟩)
 refine p_ 7 47 ?_
 refine p_ 8 48 ?_
 refine t1_ 9 49 hHeld ?_ (hy := Or.inl ⟨by rfl, by rintro w' s0; have g0 := pw_cell_below s0 y0; have g1 := pw_cell_below s0 y1; have g2 := pw_cell_below s0 y2; have g3 := pw_cell_below s0 y3; have g4 := pw_cell_below s0 y4; have g5 := pw_cell_below s0 y5; have g6 := pw_cell_below s0 y6; have g7 := pw_cell_below s0 y7; go_simp; with_reducible rfl⟩)
 refine boxes2_ 10 11 12 13 (W := w1) (T1 := 58) (T2 := 58) (d1 := 9) (d2 := 10) (y1 := 44) (y2 := 49) (z1 := (pcL z58 none 0).toArray) (z2 := (pcL z58 none 0).toArray) (pcL x xA xc) (pcL y yA yc) (fun w' h => h) hHeld (fun b9 b10 w2 hne h11 h12 hb2 => ?_) (x3 := pcL_one x xA xc) (x4 := pcL_one y yA yc)
 have HX9 := Aside0.mk h11.at_
 have HX10 := Aside0.mk h12.at_
 replace HBK := Aside0.mk (blk_below HBK.out hb2)
 replace HB := Aside0.mk (below_then HB.out HB.out.size hb2)
 replace HN := Aside0.mk (Kd.C_below HN.out hb2)
 replace HPC := Aside0.mk (Kd.C_below HPC.out hb2)
 replace HT := Aside0.mk (Kd.C_below HT.out hb2)
 replace HXC := Aside0.mk (Kd.C_below HXC.out hb2)
 replace HYC := Aside0.mk (Kd.C_below HYC.out hb2)
 clear x0 x1 x2 x3 x4 x5 x6 x7 y0 y1 y2 y3 y4 y5 y6 y7 d2 h11 h12 hb2 hHeld hne hal hbl
 simp only [putW]
 have x0 : w2.cell? ⟨b9, 0, none⟩ = some (.int .i64 x.f0) := blk_cell HX9.out 0
 have x1 : w2.cell? ⟨b9, 1, none⟩ = some (.int .i64 x.f1) := blk_cell HX9.out 1
 have x2 : w2.cell? ⟨b9, 2, none⟩ = some (.int .i64 x.f2) := blk_cell HX9.out 2
 have x3 : w2.cell? ⟨b9, 3, none⟩ = some (.int .i64 x.f3) := blk_cell HX9.out 3
 have x4 : w2.cell? ⟨b9, 4, none⟩ = some (.int .i64 x.f4) := blk_cell HX9.out 4
 have x5 : w2.cell? ⟨b9, 5, none⟩ = some (.slice xA x.f5.f0.length xc) := blk_cell HX9.out 5
 have x6 : w2.cell? ⟨b9, 6, none⟩ = some (.int .i64 x.f5.f1) := blk_cell HX9.out 6
 have x7 : w2.cell? ⟨b9, 7, none⟩ = some (.int .i64 x.f5.f2) := blk_cell HX9.out 7
 have y0 : w2.cell? ⟨b10, 0, none⟩ = some (.int .i64 y.f0) := blk_cell HX10.out 0
 have y1 : w2.cell? ⟨b10, 1, none⟩ = some (.int .i64 y.f1) := blk_cell HX10.out 1
 have y2 : w2.cell? ⟨b10, 2, none⟩ = some (.int .i64 y.f2) := blk_cell HX10.out 2
 have y3 : w2.cell? ⟨b10, 3, none⟩ = some (.int .i64 y.f3) := blk_cell HX10.out 3
 have y4 : w2.cell? ⟨b10, 4, none⟩ = some (.int .i64 y.f4) := blk_cell HX10.out 4
 have y5 : w2.cell? ⟨b10, 5, none⟩ = some (.slice yA y.f5.f0.length yc) := blk_cell HX10.out 5
 have y6 : w2.cell? ⟨b10, 6, none⟩ = some (.int .i64 y.f5.f1) := blk_cell HX10.out 6
 have y7 : w2.cell? ⟨b10, 7, none⟩ = some (.int .i64 y.f5.f2) := blk_cell HX10.out 7
 by_cases hxy : x.f1 = y.f0
 rotate_left
 ·have HRF : Aside0 (r = false) := ⟨by rw [← HR.out, allowB, if_neg HG.out, HX.out, HY.out, if_pos hxy]⟩
  have g1 : (x.f1 == y.f0) = false := by simpa using hxy
  have g2 : (x.f1 != y.f0) = true := by simpa using hxy
  clear hxy
  go_wp2_with (fail)
  go_ret
  exact ⟨by rw [HRF.out]; rfl, HB.out⟩
 have g1 : (x.f1 == y.f0) = true := by simpa using hxy
 have g2 : (x.f1 != y.f0) = false := by simpa using hxy
 have HXY := Aside0.mk hxy
 clear hxy
 go_wp2_with (fail)
 refine (mapmakerref47_back.calls x.f0 x.f1 x.f2 x.f3 x.f4 xA xc x.f5.f0 x.f5.f1 x.f5.f2 y.f0 y.f1 y.f2 y.f3 y.f4 yA yc y.f5.f0 y.f5.f1 y.f5.f2 (backR x y) w2 HXC.out HXL.out HYC.out HYL.out (back_f x y)).mono ?_
 rintro e w3 ⟨rfl, hb3⟩
 have HB3 := Aside0.mk hb3
 clear hb3 g1 g2 x0 x1 x2 x3 x4 x5 x6 x7 y0 y1 y2 y3 y4 y5 y6 y7
 obtain ⟨bk, HBKK⟩ : ∃ z, Aside0 (backR x y = z) := ⟨_, ⟨rfl⟩⟩
 rw [HBKK.out]
 go_upto_if 57 with (fail)
 go_cut [11] (fun v wc => Aside0 (Below w2.heap.size w2 wc) ∧ Aside0 (¬ (backR x y = true ∧ ¬ (l0_2.all (onlyBack x)) = true)))
 case first =>
  cases bk with
  | false =>
   go_wp2_with (fail)
   go_meet
   case rel => exact ⟨HB3, ⟨fun h => by have h1 := h.1; rw [HBKK.out] at h1; cases h1⟩⟩
  | true =>
   go_wp2_with (fail)
   go_loopw [11] (fun i wr => ∃ k : Nat, i = .int .i64 (k : Int) ∧ k ≤ l0_2.length ∧ Aside0 (Below w2.heap.size w2 wr) ∧ Aside0 (∀ j, j < k → onlyBack x (rd_T58 l0_2 (j : Int)) = true)) (fun i _ => l0_2.length - (intOf i).toNat)
   case atStart => exact ⟨0, rfl, Nat.zero_le _, HB3, ⟨fun j h => absurd h (by omega)⟩⟩
   case round =>
    clear HB3
    obtain ⟨k, rfl, hk, HBL, HAL⟩ := hrel
    have d2 : wr.cell? ⟨w.heap.size, 2, none⟩ = some (.slice (some ⟨pb, po, none⟩) l0_2.length c0_2) := blk_cell (blk_below HBK.out HBL.out) 2
    by_cases hkl : k < l0_2.length
    ·obtain ⟨pA, pc, hql, hqC, z0, z1, z2, z3, z4, z5, z6, z7⟩ := pc_get (Kd.C_below HPC.out HBL.out) hkl
     obtain ⟨p, HP⟩ : ∃ p, Aside0 (rd_T58 l0_2 (k : Int) = p) := ⟨_, ⟨rfl⟩⟩
     rw [HP.out] at z0 z1 z2 z3 z4 z5 z6 z7 hql hqC
     have HQL := Aside0.mk hql
     have HQC := Aside0.mk hqC
     have hki : (k : Int) < (l0_2.length : Int) := by omega
     have HK9 := Aside0.mk (blk_below HX9.out HBL.out)
     have x1 : wr.cell? ⟨b9, 1, none⟩ = some (.int .i64 x.f1) := blk_cell HK9.out 1
     clear hql hqC
     by_cases hpx : p.f0 = x.f1
     ·have g3 : (p.f0 == x.f1) = true := by simpa using hpx
      have HPX := Aside0.mk hpx
      clear hpx x1
      have x0 : wr.cell? ⟨b9, 0, none⟩ = some (.int .i64 x.f0) := blk_cell HK9.out 0
      have x1 : wr.cell? ⟨b9, 1, none⟩ = some (.int .i64 x.f1) := blk_cell HK9.out 1
      have x2 : wr.cell? ⟨b9, 2, none⟩ = some (.int .i64 x.f2) := blk_cell HK9.out 2
      have x3 : wr.cell? ⟨b9, 3, none⟩ = some (.int .i64 x.f3) := blk_cell HK9.out 3
      have x4 : wr.cell? ⟨b9, 4, none⟩ = some (.int .i64 x.f4) := blk_cell HK9.out 4
      have x5 : wr.cell? ⟨b9, 5, none⟩ = some (.slice xA x.f5.f0.length xc) := blk_cell HK9.out 5
      have x6 : wr.cell? ⟨b9, 6, none⟩ = some (.int .i64 x.f5.f1) := blk_cell HK9.out 6
      have x7 : wr.cell? ⟨b9, 7, none⟩ = some (.int .i64 x.f5.f2) := blk_cell HK9.out 7
      go_upto_region 10 with (fail)
      refine s_ (fun w' => Below wr.heap.size wr w') [] (below_drew (Below.refl _ _)) (fun hHeld => ?_)
      refine p_ 0 65 ?_
      refine t1_ 1 66 hHeld ?_ (hy := Or.inl ⟨by rfl, by rintro w' s0; have g0 := pw_cell_below s0 d2; go_simp; with_reducible rfl⟩)
      refine p_ 2 67 ?_
      refine p_ 3 68 ?_
      refine p_ 4 69 ?_
      refine t1_ 5 70 hHeld ?_ (hy := Or.inl ⟨by rfl, by rintro w' s0; have g0 := pw_cell_below s0 z0; go_simp; with_reducible rfl⟩)
      refine p_ 6 71 ?_
      refine t1_ 7 72 hHeld ?_ (hy := Or.inl ⟨by rfl, by rintro w' s0; have g0 := pw_cell_below s0 x1; go_simp; with_reducible rfl⟩)
      refine p_ 8 73 ?_
      refine p_ 9 74 ?_
      refine t1_ 10 75 hHeld ?_ (hy := Or.inl ⟨by rfl, by rintro w' s0; have g0 := pw_cell_below s0 x0; have g1 := pw_cell_below s0 x1; have g2 := pw_cell_below s0 x2; have g3 := pw_cell_below s0 x3; have g4 := pw_cell_below s0 x4; have g5 := pw_cell_below s0 x5; have g6 := pw_cell_below s0 x6; have g7 := pw_cell_below s0 x7; go_simp; with_reducible rfl⟩)
      refine p_ 11 76 ?_
      refine t1_ 12 77 hHeld ?_ (hy := Or.inl ⟨by rfl, by rintro w' s0; have g0 := pw_cell_below s0 d2; go_simp; with_reducible rfl⟩)
      refine p_ 13 78 ?_
      refine p_ 14 79 ?_
      refine t1_ 15 80 hHeld ?_ (hy := Or.inl ⟨by rfl, by rintro w' s0; have g0 := pw_cell_below s0 z0; have g1 := pw_cell_below s0 z1; have g2 := pw_cell_below s0 z2; have g3 := pw_cell_below s0 z3; have g4 := pw_cell_below s0 z4; have g5 := pw_cell_below s0 z5; have g6 := pw_cell_below s0 z6; have g7 := pw_cell_below s0 z7; go_simp; with_reducible rfl⟩)
      refine o_ 16 81 (fun K hK => ?_)
      refine goes_ Try.func39 (by kernel_rfl) rfl #[.agg (pcL x xA xc).toArray, .agg (pcL p pA pc).toArray] (by rfl) rfl rfl byL ?_
      refine (mapmakerref47_back.calls x.f0 x.f1 x.f2 x.f3 x.f4 xA xc x.f5.f0 x.f5.f1 x.f5.f2 p.f0 p.f1 p.f2 p.f3 p.f4 pA pc p.f5.f0 p.f5.f1 p.f5.f2 (backR x p) _ (Kd.C_below (Kd.C_below HXC.out HBL.out) hHeld) HXL.out (Kd.C_below HQC.out hHeld) HQL.out (back_f x p)).mono ?_
      rintro e w4 ⟨rfl, hb4⟩
      refine ⟨_, rfl, ?_⟩
      have hb5 := below_then hHeld hHeld.size hb4
      refine hK.out _ _ hb5 (fun hHeld => ?_)
      have HB4 := Aside0.mk (below_then HBL.out HBL.out.size hb5)
      clear hK K hb4 hb5 x0 x1 x2 x3 x4 x5 x6 x7 z0 z1 z2 z3 z4 z5 z6 z7 d2 g3
      refine n_ 81 ?_
      obtain ⟨bb, HBB⟩ : ∃ z, Aside0 (backR x p = z) := ⟨_, ⟨rfl⟩⟩
      rw [HBB.out]
      refine p_ 17 82 ?_
      refine p_ 18 83 ?_
      refine d_ ?_
      have HK : Aside0 (onlyBack x (rd_T58 l0_2 (k : Int)) = bb) := ⟨by rw [HP.out, onlyBack, decide_eq_true HPX.out, HBB.out]; rfl⟩
      clear hHeld
      cases bb with
      | false =>
       have HRF : Aside0 (r = false) := ⟨by
        have hne : ¬ (l0_2.all (onlyBack x)) = true := fun h => by
         rw [List.all_eq_true] at h
         have := h _ (rd_mem hkl)
         rw [HK.out] at this
         cases this
        rw [← HR.out, allowB, if_neg HG.out, HX.out, HY.out, if_neg (fun h => h HXY.out), if_pos ⟨HBKK.out, hne⟩]⟩
       go_wp2_with (fail)
       go_ret
       exact ⟨by rw [HRF.out]; rfl, below_then HB.out HB.out.size HB4.out⟩
      | true =>
       go_wp2_with (fail)
       go_roundw
       case rel => exact ⟨k + 1, by go_num, by omega, HB4, ⟨fun j hj => by
        by_cases e : j = k
        ·subst e; exact HK.out
        ·exact HAL.out j (by omega)⟩⟩
       case measure => simp [intOf]; omega
     ·have g3 : (p.f0 == x.f1) = false := by simpa using hpx
      have HK : Aside0 (onlyBack x (rd_T58 l0_2 (k : Int)) = true) := ⟨by rw [HP.out, onlyBack, decide_eq_false hpx]; rfl⟩
      clear hpx
      go_upto_region 10 with (fail)
      go_quiet (fail)
      go_wp2_with (fail)
      go_roundw
      case rel => exact ⟨k + 1, by go_num, by omega, ⟨byB HBL.out⟩, ⟨fun j hj => by
       by_cases e : j = k
       ·subst e; exact HK.out
       ·exact HAL.out j (by omega)⟩⟩
      case measure => simp [intOf]; omega
    ·obtain rfl : k = l0_2.length := by omega
     clear hk hkl
     go_wp2_with (fail)
     go_meet
     case rel => exact ⟨HBL, ⟨fun h => h.2 (by
      rw [List.all_eq_true]
      intro q hq
      obtain ⟨j, hj, rfl⟩ := List.getElem_of_mem hq
      have := HAL.out j hj
      rwa [rd_pc l0_2 j hj] at this)⟩⟩
 case rest =>
  clear HB3
  obtain ⟨HBC, HNB⟩ := hcut
  obtain ⟨m, hm⟩ := Int.eq_ofNat_of_zero_le (show 0 ≤ x.f1 from by have := HXN.out; unfold pcBad at this; omega)
  have HM := Aside0.mk hm
  have hml : m < l0_0.length := by have := HXN.out; unfold pcBad at this; omega
  have HR2 : Aside0 (turnsR x.f2 (rd l0_0 (m : Int)) y.f2 l1 false false = r) := ⟨by rw [← HR.out, allowB, if_neg HG.out, HX.out, HY.out, if_neg (fun h => h HXY.out), if_neg HNB.out, HM.out]⟩
  rcases ints_of_C HN.out with ⟨hz, _⟩ | ⟨_, nb, no, hA, hce⟩
  ·omega
  subst hA
  have hcn := hce m hml
  have HCN := Aside0.mk hcn
  clear hm hce HNB HR hcn HBKK HPC HG HXN HOK
  obtain ⟨v, HV⟩ : ∃ v, Aside0 (rd l0_0 (m : Int) = v) := ⟨_, ⟨rfl⟩⟩
  have HCV : Aside0 (w2.cell? ⟨nb, no + m, none⟩ = some (.int .i64 v)) := ⟨by rw [← HV.out]; exact HCN.out⟩
  rw [HV.out] at HR2
  clear HCN
  go_wp2_with (fail)
  go_loopw [12, 13, 14] (fun mu ma i wr => ∃ (k : Nat) (b1 b2 : Bool), i = .int .i64 (k : Int) ∧ mu = .bool b1 ∧ ma = .bool b2 ∧ k ≤ l1.length ∧ Aside0 (Below w2.heap.size w2 wr) ∧ Aside0 (turnsR x.f2 v y.f2 (l1.drop k) b1 b2 = r)) (fun _ _ i _ => l1.length - (intOf i).toNat)
  case atStart => exact ⟨0, false, false, rfl, rfl, rfl, Nat.zero_le _, HBC, HR2⟩
  case round =>
   clear HR2
   obtain ⟨k, b1, b2, rfl, rfl, rfl, hk, HBL, HTR⟩ := hrel
   by_cases hkl : k < l1.length
   ·obtain ⟨tb, to', hA⟩ := tn_at HT.out hkl
    subst hA
    obtain ⟨q0, q1, q2, q3⟩ := tn_get (Kd.C_below HT.out HBL.out) hkl
    have HTS : Aside0 (l1.drop k = rd_T42 l1 (k : Int) :: l1.drop (k + 1)) := ⟨by
     rw [List.drop_eq_getElem_cons hkl]
     congr 1
     unfold rd_T42
     simp [List.getD_eq_getElem?_getD, List.getElem?_eq_getElem hkl]⟩
    rw [HTS.out] at HTR
    generalize rd_T42 l1 (k : Int) = t at q0 q1 q2 q3 HTR
    obtain ⟨t0, t1, t2, t3⟩ := t
    dsimp only at q0 q1 q2 q3
    have x1 : wr.cell? ⟨b9, 1, none⟩ = some (.int .i64 x.f1) := blk_cell (blk_below HX9.out HBL.out) 1
    have x2 : wr.cell? ⟨b9, 2, none⟩ = some (.int .i64 x.f2) := blk_cell (blk_below HX9.out HBL.out) 2
    have y2 : wr.cell? ⟨b10, 2, none⟩ = some (.int .i64 y.f2) := blk_cell (blk_below HX10.out HBL.out) 2
    have d0 : wr.cell? ⟨w.heap.size, 0, none⟩ = some (.slice (some ⟨nb, no, none⟩) l0_0.length c0_0) := blk_cell (blk_below HBK.out HBL.out) 0
    have hv := pw_cell_below HBL.out HCV.out
    rw [HM.out] at x1
    have hki : (k : Int) < (l1.length : Int) := by omega
    generalize x.f2 = xw at x2 HTR
    generalize y.f2 = yw at y2 HTR
    clear HTS
    by_cases h1 : t0 = xw ∧ t1 = v
    ·obtain ⟨rfl, rfl⟩ := h1
     go_upto_region 16 with (fail)
     go_quiet (fail)
     cases t3 with
     | true =>
      replace HTR : Aside0 (turnsR t0 t1 yw (l1.drop (k + 1)) true (b2 || decide (t2 = yw)) = r) := ⟨by rw [← HTR.out, turnsR, if_pos ⟨rfl, rfl⟩, if_pos rfl]⟩
      go_upto_region 17 with (fail)
      go_quiet (fail)
      cases b2 with
      | true =>
       go_upto_region 21 with (fail)
       go_quiet (fail)
       go_wp2_with (fail)
       go_roundw
       case rel => exact ⟨k + 1, true, true, by go_num, rfl, rfl, by omega, ⟨byB HBL.out⟩, HTR⟩
       case measure => simp [intOf]; omega
      | false =>
       replace HTR : Aside0 (turnsR t0 t1 yw (l1.drop (k + 1)) true (t2 == yw) = r) := ⟨by have h := HTR.out; rw [Bool.false_or] at h; rw [← h]; congr 1⟩
       go_upto_region 21 with (fail)
       go_quiet (fail)
       go_wp2_with (fail)
       go_roundw
       case rel => exact ⟨k + 1, true, (t2 == yw), by go_num, rfl, rfl, by omega, ⟨byB HBL.out⟩, HTR⟩
       case measure => simp [intOf]; omega
     | false =>
      by_cases h5 : t2 = yw
      ·subst h5
       have HRF : Aside0 (r = false) := ⟨by rw [← HTR.out, turnsR, if_pos ⟨rfl, rfl⟩, if_neg Bool.false_ne_true, if_pos rfl]⟩
       clear HTR
       have HBX := Aside0.mk (below_then HB.out HB.out.size HBL.out)
       go_upto_region 17 with (fail)
       go_quiet (fail)
       go_wp2_with (fail)
       go_ret
       exact ⟨by rw [HRF.out]; rfl, byB HBX.out⟩
      ·have h6 : (t2 == yw) = false := by simpa using h5
       replace HTR : Aside0 (turnsR t0 t1 yw (l1.drop (k + 1)) b1 b2 = r) := ⟨by rw [← HTR.out, turnsR, if_pos ⟨rfl, rfl⟩, if_neg Bool.false_ne_true, if_neg h5]⟩
       clear h5
       go_upto_region 17 with (fail)
       go_quiet (fail)
       go_wp2_with (fail)
       go_roundw
       case rel => exact ⟨k + 1, b1, b2, by go_num, rfl, rfl, by omega, ⟨byB HBL.out⟩, HTR⟩
       case measure => simp [intOf]; omega
    ·replace HTR : Aside0 (turnsR xw v yw (l1.drop (k + 1)) b1 b2 = r) := ⟨by rw [← HTR.out, turnsR, if_neg h1]⟩
     by_cases h2 : t0 = xw
     ·have h3 : (t1 == v) = false := by simpa using fun h => h1 ⟨h2, h⟩
      have h4 : (t1 != v) = true := by simpa using fun h => h1 ⟨h2, h⟩
      subst h2
      clear h1
      go_upto_region 16 with (fail)
      go_quiet (fail)
      go_wp2_with (fail)
      go_roundw
      case rel => exact ⟨k + 1, b1, b2, by go_num, rfl, rfl, by omega, ⟨byB HBL.out⟩, HTR⟩
      case measure => simp [intOf]; omega
     ·have h3 : (t0 == xw) = false := by simpa using h2
      have h4 : (t0 != xw) = true := by simpa using h2
      clear h1
      go_upto_region 16 with (fail)
      go_quiet (fail)
      go_wp2_with (fail)
      go_roundw
      case rel => exact ⟨k + 1, b1, b2, by go_num, rfl, rfl, by omega, ⟨byB HBL.out⟩, HTR⟩
      case measure => simp [intOf]; omega
   ·obtain rfl : k = l1.length := by omega
    rw [List.drop_length] at HTR
    have HTF : Aside0 (r = (!b1 || b2)) := ⟨HTR.out.symm⟩
    clear hk hkl HTR
    have HBX := Aside0.mk (below_then HB.out HB.out.size HBL.out)
    cases b1 <;> cases b2 <;> (go_wp2_with (fail); go_ret; exact ⟨by rw [HTF.out]; rfl, HBX.out⟩)
theorem setCell_size (w : World) (a : Addr) (v : Value) : (w.setCell a v).heap.size = w.heap.size := by simp [World.setCell]
/-! ### What a call leaves alone, but for the blocks of T -/
structure Bel (T : Nat → Prop) (w w' : World) : Prop where
 os : w'.os = w.os
 tape : w'.tape = w.tape
 output : w'.output = w.output
 size : w.heap.size ≤ w'.heap.size
 block : ∀ k, k < w.heap.size → ¬ T k → w'.heap[k]? = w.heap[k]?
section
variable {T : Nat → Prop} {W w w1 : World}
theorem Bel.refl (T : Nat → Prop) (w : World) : Bel T w w := ⟨rfl, rfl, rfl, Nat.le_refl _, fun _ _ _ => rfl⟩
theorem Bel.trans (h : Bel T W w) {T' : Nat → Prop} (h' : Bel T' w w1) (hT : ∀ k, k < W.heap.size → T' k → T k) : Bel T W w1 :=
 ⟨h'.os.trans h.os, h'.tape.trans h.tape, h'.output.trans h.output, Nat.le_trans h.size h'.size, fun k hk hn => (h'.block k (Nat.lt_of_lt_of_le hk h.size) (fun x => hn (hT k hk x))).trans (h.block k hk hn)⟩
theorem Bel.below (h : Bel T W w) (h' : Below w.heap.size w w1) : Bel T W w1 :=
 ⟨h'.os.trans h.os, h'.tape.trans h.tape, h'.output.trans h.output, Nat.le_trans h.size h'.size, fun k hk hn => (h'.block k (Nat.lt_of_lt_of_le hk h.size)).trans (h.block k hk hn)⟩
theorem Bel.alloc (h : Bel T W w) (o : Obj) : Bel T W (w.alloc o) := h.below ((Below.refl _ _).alloc (Nat.le_refl _) o)
theorem Bel.drew (h : Bel T W w) : Bel T W w.drew := ⟨h.os, h.tape, h.output, h.size, h.block⟩
theorem Bel.grown (h : Bel T W w) {row : Option Nat} (h' : w.grownBy w1 row) (hr : ∀ k, row = some k → T k ∨ W.heap.size ≤ k) : Bel T W w1 :=
 ⟨h'.os.trans h.os, h'.tape.trans h.tape, h'.output.trans h.output, Nat.le_trans h.size h'.size, fun k hk hn => (h'.block k (Nat.lt_of_lt_of_le hk h.size) (fun e => by
  rcases hr k e.symm with h1 | h1
  ·exact hn h1
  ·omega)).trans (h.block k hk hn)⟩
theorem Bel.setCell (h : Bel T W w) (a : Addr) (v : Value) (ha : T a.block ∨ W.heap.size ≤ a.block) : Bel T W (w.setCell a v) :=
 ⟨h.os, h.tape, h.output, by rw [setCell_size]; exact h.size, fun k hk hn => (Below.heap_setCell w a v k (fun e => by
  rcases ha with h1 | h1
  ·exact hn (e ▸ h1)
  ·omega)).trans (h.block k hk hn)⟩
theorem Bel.out (h : Bel T W w) {base : Nat} (hb : base ≤ W.heap.size) (hT : ∀ k, T k → base ≤ k) : Below base W w :=
 ⟨h.os, h.tape, h.output, h.size, fun k hk => h.block k (Nat.lt_of_lt_of_le hk hb) (fun x => by have := hT k x; omega)⟩
end
end Go.Proofs.Ytaodlehnfjalnaa.Print
