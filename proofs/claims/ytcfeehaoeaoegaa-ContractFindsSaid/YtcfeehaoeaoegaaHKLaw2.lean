/- ContractFinds: Find, Up, Parent and Lower return what is specified. Printed by a program. -/
import Derived.Test.YtcfeehaoeaoegaaHKLives
namespace Go.Proofs.Ytcfeehaoeaoegaa.Print
open Go.RowKit Go.Proofs.YtcfeehaoeaoegaaW.PrintWords Go.Proofs.YtcfeehaoeaoegaaW.PrintLast Go.Proofs.YtcfeehaoeaoegaaW.PrintMore
set_option linter.unusedVariables false
set_option linter.unusedSimpArgs false
def mapmakerlaw40_ContractFinds.f (a0_0 : Int) (l0_1 : List S38) (l1 : List Int) (a2 : Int) (a3 : Int) (a4 : Int) : Option Bool := some true
set_option maxHeartbeats 6400000 in
set_option maxRecDepth 100000 in
theorem mapmakerlaw40_ContractFinds.calls (a0_0 : Int) (A0_1 : Option Addr) (c0_1 : Nat) (l0_1 : List S38) (A1 : Option Addr) (c1 : Nat) (l1 : List Int) (a2 : Int) (a3 : Int) (a4 : Int) (r : Bool) (w : World) (hr0_1 : Kd.C k38 w A0_1 l0_1.length l0_1) (hc0_1 : l0_1.length ≤ c0_1)
    (hr1 : Kd.C (Kd.int .i64) w A1 l1.length l1) (hc1 : l1.length ≤ c1) (h : mapmakerlaw40_ContractFinds.f a0_0 l0_1 l1 a2 a3 a4 = some r) :
    Calls Try.prog 4 #[.agg #[.int .i64 a0_0, .slice A0_1 l0_1.length c0_1], .slice A1 l1.length c1, .int .i64 a2, .int .i64 a3, .int .i64 a4] w fun e w' => e = .returned (.bool r) ∧ Below w.heap.size w w' := by
  injection h with h
  subst h
  have HG := Aside0.mk hr0_1
  have HL := Aside0.mk hr1
  have HGC := Aside0.mk hc0_1
  have HLC := Aside0.mk hc1
  clear hr0_1 hr1 hc0_1 hc1
  go_enter Try.func4, Try.ntmps4
  go_upto_region 1 with (fail)
  have HBK := Aside0.mk (heap_alloc_new w (Obj.cells #[.int .i64 a0_0, .slice A0_1 l0_1.length c0_1] 24))
  have HBE : Below w.heap.size w (w.alloc (Obj.cells #[.int .i64 a0_0, .slice A0_1 l0_1.length c0_1] 24)) := (Below.refl _ _).alloc (Nat.le_refl _) _
  replace HG := Aside0.mk (Kd.C_below HG.out HBE)
  replace HL := Aside0.mk (Kd.C_below HL.out HBE)
  have HB := Aside0.mk HBE
  generalize w.alloc (Obj.cells #[.int .i64 a0_0, .slice A0_1 l0_1.length c0_1] 24) = w1 at HBK HG HL HB ⊢
  clear HBE
  have hc0 := (blk_cell HBK.out 0).trans rfl
  have hc1 := (blk_cell HBK.out 1).trans rfl
  obtain ⟨fb, hfb, hfw⟩ : ∃ fb, mapmakerlaw40_few.f a0_0 l0_1 l1 = some fb ∧ (fb = true → l0_1.length ≤ 30 ∧ (a0_0 ≤ 10 ∨ a0_0 > 1048576) ∧ l1.length ≤ 20) := by
    unfold mapmakerlaw40_few.f
    by_cases h1 : (l0_1.length : Int) ≤ 30
    · by_cases h2 : a0_0 ≤ 10
      · refine ⟨_, by rw [if_pos h1, if_pos h2], fun h => ?_⟩
        rw [decide_eq_true_eq] at h
        omega
      · by_cases h3 : a0_0 > 1048576
        · refine ⟨_, by rw [if_pos h1, if_neg h2, if_pos h3], fun h => ?_⟩
          rw [decide_eq_true_eq] at h
          omega
        · exact ⟨_, by rw [if_pos h1, if_neg h2, if_neg h3], fun h => by cases h⟩
    · exact ⟨_, by rw [if_neg h1], fun h => by cases h⟩
  have HFB := Aside0.mk hfb
  clear hfb
  go_wp2_with (fail)
  refine (mapmakerlaw40_few.calls a0_0 A0_1 c0_1 l0_1 A1 c1 l1 fb _ HG.out HGC.out HL.out HLC.out HFB.out).mono ?_
  rintro e w2 ⟨rfl, hb2⟩
  replace HBK := Aside0.mk (blk_below HBK.out hb2)
  replace HG := Aside0.mk (Kd.C_below HG.out hb2)
  replace HL := Aside0.mk (Kd.C_below HL.out hb2)
  replace HB := Aside0.mk (below_more HB.out (Nat.le_refl _) hb2)
  clear hb2 hc0 hc1 HFB
  cases fb with
  | false =>
    clear hfw
    go_wp2_with (fail)
    refine (mapmakerlaw40_lives.calls _).mono ?_
    rintro e w3 ⟨rfl, hb3⟩
    replace HB := Aside0.mk (below_more HB.out (Nat.le_refl _) hb3)
    clear hb3
    go_wp2
    go_ret
    exact ⟨rfl, HB.out⟩
  | true =>
  obtain ⟨hf1, hf2, hf3⟩ := hfw rfl
  have hN3 : a0_0 ≤ 1000 ∨ a0_0 > 1048576 := by omega
  have hA3 : l0_1.length ≤ 1000000 := by omega
  have hL3 : l1.length ≤ 1000000 := by omega
  clear hfw
  have hc0 := (blk_cell HBK.out 0).trans rfl
  have hc1 := (blk_cell HBK.out 1).trans rfl
  · go_wp2_with (fail)
    refine (contract_New.calls HG.out HGC.out HL.out HLC.out hN3 hA3 hL3).mono ?_
    rintro e w4 ⟨hb4, (⟨hne, rfl⟩ | ⟨hne, p, rfl, hH⟩)⟩
    · replace HBK := Aside0.mk (blk_below HBK.out hb4)
      replace HG := Aside0.mk (Kd.C_below HG.out hb4)
      replace HL := Aside0.mk (Kd.C_below HL.out hb4)
      replace HB := Aside0.mk (below_more HB.out (Nat.le_refl _) hb4)
      clear hb4 hc0 hc1
      have HNE := Aside0.mk hne
      clear hne
      generalize newErr a0_0 l0_1 l1 = er at HNE ⊢
      have hne : ¬ er = 0 := HNE.out
      go_wp2_with (fail)
      refine (mapmakerlaw40_lives.calls _).mono ?_
      rintro e w6 ⟨rfl, hb6⟩
      replace HB := Aside0.mk (below_more HB.out (Nat.le_refl _) hb6)
      clear hb6
      go_wp2
      go_ret
      exact ⟨rfl, HB.out⟩
    · replace HBK := Aside0.mk (blk_below HBK.out hb4)
      replace HG := Aside0.mk (Kd.C_below HG.out hb4)
      replace HL := Aside0.mk (Kd.C_below HL.out hb4)
      replace HB := Aside0.mk (below_more HB.out (Nat.le_refl _) hb4)
      clear hb4 hc0 hc1
      have hchk : chk a0_0 l0_1 = 0 := by
        unfold newErr at hne
        split at hne
        · contradiction
        · rename_i hh; exact Classical.not_not.1 hh
      have hord : ordGo a0_0 l1.length [] l1 = 0 := by
        unfold newErr at hne
        rw [if_neg (fun h => h hchk)] at hne
        exact hne
      obtain ⟨hN0, hN1, _⟩ := chk_ok hchk
      obtain ⟨n, rfl⟩ := Int.eq_ofNat_of_zero_le hN0
      have hn : n ≤ 10 := by omega
      have hk : Hk n l0_1 l1 := ⟨hchk, by have := isOrd_of hN0 hord; rw [Int.toNat_natCast] at this; exact this⟩
      have HK := Aside0.mk hk
      have HH := Aside0.mk (show HierOf w4 p n l0_1 l1 by rw [Int.toNat_natCast] at hH; exact hH)
      clear hchk hord hN0 hN1 hk hH hne
      have hc0 := (blk_cell HBK.out 0).trans rfl
      have hc1 := (blk_cell HBK.out 1).trans rfl
      obtain ⟨pr, HPR⟩ : ∃ pr, Aside0 (findS n (ranksTo l1 l1.length) (hierS n l0_1 l1) a2 a3 = pr) := ⟨_, ⟨rfl⟩⟩
      obtain ⟨fa, fo⟩ := pr
      obtain ⟨kf, hkf⟩ := HK.out.ev_find (by omega) hA3 a2 a3
      have HKF : Aside0 (mapmakerref40_Find.f kf (n : Int) l0_1 l1 a2 a3 = some (fa, fo)) := ⟨(hkf kf (Nat.le_refl _)).trans (by rw [HK.out.find, HPR.out])⟩
      obtain ⟨ku, hku⟩ := HK.out.ev_up (by omega) hA3 a3
      have HKU := Aside0.mk (hku ku (Nat.le_refl _))
      obtain ⟨kp, hkp⟩ := HK.out.ev_parent (by omega) hA3 a3
      have HKP := Aside0.mk (hkp kp (Nat.le_refl _))
      obtain ⟨kl, hkl⟩ := HK.out.ev_lower (by omega) hA3 a4
      have HKL := Aside0.mk (hkl kl (Nat.le_refl _))
      have hul : (upIx (hierS n l0_1 l1).edges a3).length ≤ 1000000000 := by
        have h1 := upIx_len (hierS n l0_1 l1).edges a3
        have h2 := HK.out.short (by omega)
        omega
      have hll2 : (rlower (hierS n l0_1 l1).edges l1 a4).length ≤ 1000000000 := by
        unfold rlower
        split
        · refine Nat.le_trans (List.length_filter_le _ _) ?_
          rw [List.length_take]
          omega
        · simp
      obtain ⟨ke, hke⟩ := mapmakerref05_Equal.ev (upIx (hierS n l0_1 l1).edges a3) (upIx (hierS n l0_1 l1).edges a3) hul
      have HKE : Aside0 (mapmakerref05_Equal.f ke (upIx (hierS n l0_1 l1).edges a3) (upIx (hierS n l0_1 l1).edges a3) = some true) := ⟨(hke ke (Nat.le_refl _)).trans (by rw [decide_eq_true rfl])⟩
      obtain ⟨kg, hkg⟩ := mapmakerref05_Equal.ev (rlower (hierS n l0_1 l1).edges l1 a4) (rlower (hierS n l0_1 l1).edges l1 a4) hll2
      have HKG : Aside0 (mapmakerref05_Equal.f kg (rlower (hierS n l0_1 l1).edges l1 a4) (rlower (hierS n l0_1 l1).edges l1 a4) = some true) := ⟨(hkg kg (Nat.le_refl _)).trans (by rw [decide_eq_true rfl])⟩
      have HUP : Aside0 (upS n (hierS n l0_1 l1) a3 = upIx (hierS n l0_1 l1).edges a3) := ⟨HK.out.up a3⟩
      have HPA : Aside0 (parentS n (hierS n l0_1 l1) a3 = rparent (hierS n l0_1 l1).edges a3) := ⟨HK.out.parent a3⟩
      have HLO : Aside0 (lowerS (hierS n l0_1 l1) a4 = rlower (hierS n l0_1 l1).edges l1 a4) := ⟨HK.out.lower a4⟩
      clear hkf hku hkp hkl hke hkg hul hll2
      go_wp2_with (fail)
      refine (Hier_Find.calls HH.out HK.out.lenR a2 a3).mono ?_
      rintro e w5 ⟨he, hb5⟩
      rw [HPR.out] at he
      subst he
      replace HBK := Aside0.mk (blk_below HBK.out hb5)
      replace HG := Aside0.mk (Kd.C_below HG.out hb5)
      replace HL := Aside0.mk (Kd.C_below HL.out hb5)
      replace HH := Aside0.mk (HH.out.below hb5)
      replace HB := Aside0.mk (below_more HB.out (Nat.le_refl _) hb5)
      clear hb5 hc0 hc1
      have hc0 := (blk_cell HBK.out 0).trans rfl
      have hc1 := (blk_cell HBK.out 1).trans rfl
      go_wp2_with (fail)
      refine (mapmakerref40_Find.calls kf (n : Int) A0_1 c0_1 l0_1 A1 c1 l1 a2 a3 fa fo _ HG.out HGC.out HL.out HLC.out HKF.out).mono ?_
      rintro e w6 ⟨rfl, hb6⟩
      replace HBK := Aside0.mk (blk_below HBK.out hb6)
      replace HG := Aside0.mk (Kd.C_below HG.out hb6)
      replace HL := Aside0.mk (Kd.C_below HL.out hb6)
      replace HH := Aside0.mk (HH.out.below hb6)
      replace HB := Aside0.mk (below_more HB.out (Nat.le_refl _) hb6)
      clear hb6 hc0 hc1 HKF HPR
      have hc0 := (blk_cell HBK.out 0).trans rfl
      have hc1 := (blk_cell HBK.out 1).trans rfl
      go_upto_region 10 with (fail)
      generalize (hierS n l0_1 l1).edges = ES at HKU HKP HKL HKE HKG HUP HPA HLO
      generalize upIx ES a3 = up at HKU HKE HUP
      generalize rparent ES a3 = pa at HKP HPA
      generalize rlower ES l1 a4 = lo at HKL HKG HLO
      refine start_ (n := 42) (S := fun w' => w'.cell? ⟨w.heap.size, 0, none⟩ = some (.int .i64 (n : Int)) ∧ w'.cell? ⟨w.heap.size, 1, none⟩ = some (.slice A0_1 l0_1.length c0_1)) (ds := []) #[yF,yF,yF,yF,yF,yF,yF,yF,yF,yF,yF,yF,yF,yF,yF,yF,yF,yF,yF,yF,yF,yF,yF,yF,yF,yF,yF,yF,yF,yF,yF,yF,yF,yF,yF,yF,yF,yF,yF,yF,yF,yF] (by kernel_rfl) rfl rfl ⟨hc0, hc1⟩ (fun hHeld => ?_)
      replace HG := Aside0.mk (Kd.C_below HG.out (below_drew (Below.refl _ _)))
      replace HL := Aside0.mk (Kd.C_below HL.out (below_drew (Below.refl _ _)))
      replace HH := Aside0.mk (HH.out.below (below_drew (Below.refl _ _)))
      replace HB := Aside0.mk (below_more HB.out (Nat.le_refl _) (below_drew (Below.refl _ _)))
      generalize w6.drew = we at HG HL HH HB hHeld ⊢
      clear hc0 hc1
      refine pure_ (i := 0) (N := some 52) (v := ?_) (a' := ?_) #[yT,yF,yF,yF,yF,yF,yF,yF,yF,yF,yF,yF,yF,yF,yF,yF,yF,yF,yF,yF,yF,yF,yF,yF,yF,yF,yF,yF,yF,yF,yF,yF,yF,yF,yF,yF,yF,yF,yF,yF,yF,yF] rfl rfl (by kernel_rfl) (fun _ _ _ h => h) (Or.inl ⟨by rfl, ?_⟩) ?_ ?_; rotate_left; (·intro w'; go_simp; with_reducible rfl); rotate_left; (·simp only [putW]; rfl)
      refine pure_ (i := 1) (N := some 53) (v := ?_) (a' := ?_) #[yT,yT,yF,yF,yF,yF,yF,yF,yF,yF,yF,yF,yF,yF,yF,yF,yF,yF,yF,yF,yF,yF,yF,yF,yF,yF,yF,yF,yF,yF,yF,yF,yF,yF,yF,yF,yF,yF,yF,yF,yF,yF] rfl rfl (by kernel_rfl) (fun _ _ _ h => h) (Or.inl ⟨by rfl, ?_⟩) ?_ ?_; rotate_left; (·intro w'; go_simp; with_reducible rfl); rotate_left; (·simp only [putW]; rfl)
      refine pure_ (i := 2) (N := some 54) (v := ?_) (a' := ?_) #[yT,yT,yT,yF,yF,yF,yF,yF,yF,yF,yF,yF,yF,yF,yF,yF,yF,yF,yF,yF,yF,yF,yF,yF,yF,yF,yF,yF,yF,yF,yF,yF,yF,yF,yF,yF,yF,yF,yF,yF,yF,yF] rfl rfl (by kernel_rfl) (fun _ _ _ h => h) (Or.inl ⟨by rfl, ?_⟩) ?_ ?_; rotate_left; (·intro w'; go_simp; with_reducible rfl); rotate_left; (·simp only [putW]; rfl)
      refine pure_ (i := 3) (N := some 55) (v := ?_) (a' := ?_) #[yT,yT,yT,yT,yF,yF,yF,yF,yF,yF,yF,yF,yF,yF,yF,yF,yF,yF,yF,yF,yF,yF,yF,yF,yF,yF,yF,yF,yF,yF,yF,yF,yF,yF,yF,yF,yF,yF,yF,yF,yF,yF] rfl rfl (by kernel_rfl) (fun _ _ _ h => h) (Or.inl ⟨by rfl, ?_⟩) ?_ ?_; rotate_left; (·intro w'; go_simp; with_reducible rfl); rotate_left; (·simp only [putW]; rfl)
      refine pure_ (i := 4) (N := some 56) (v := ?_) (a' := ?_) #[yT,yT,yT,yT,yT,yF,yF,yF,yF,yF,yF,yF,yF,yF,yF,yF,yF,yF,yF,yF,yF,yF,yF,yF,yF,yF,yF,yF,yF,yF,yF,yF,yF,yF,yF,yF,yF,yF,yF,yF,yF,yF] rfl rfl (by kernel_rfl) (fun _ _ _ h => h) (Or.inl ⟨by rfl, ?_⟩) ?_ ?_; rotate_left; (·intro w'; go_simp; with_reducible rfl); rotate_left; (·simp only [putW]; rfl)
      refine pure_ (i := 5) (N := some 57) (v := ?_) (a' := ?_) #[yT,yT,yT,yT,yT,yT,yF,yF,yF,yF,yF,yF,yF,yF,yF,yF,yF,yF,yF,yF,yF,yF,yF,yF,yF,yF,yF,yF,yF,yF,yF,yF,yF,yF,yF,yF,yF,yF,yF,yF,yF,yF] rfl rfl (by kernel_rfl) (fun _ _ _ h => h) (Or.inl ⟨by rfl, ?_⟩) ?_ ?_; rotate_left; (·intro w'; go_simp; with_reducible rfl); rotate_left; (·simp only [putW]; rfl)
      refine pure_ (i := 6) (N := some 58) (v := ?_) (a' := ?_) #[yT,yT,yT,yT,yT,yT,yT,yF,yF,yF,yF,yF,yF,yF,yF,yF,yF,yF,yF,yF,yF,yF,yF,yF,yF,yF,yF,yF,yF,yF,yF,yF,yF,yF,yF,yF,yF,yF,yF,yF,yF,yF] rfl rfl (by kernel_rfl) (fun _ _ _ h => h) (Or.inl ⟨by rfl, ?_⟩) ?_ ?_; rotate_left; (·intro w'; go_simp; with_reducible rfl); rotate_left; (·simp only [putW]; rfl)
      refine pure_ (i := 7) (N := some 59) (v := ?_) (a' := ?_) #[yT,yT,yT,yT,yT,yT,yT,yT,yF,yF,yF,yF,yF,yF,yF,yF,yF,yF,yF,yF,yF,yF,yF,yF,yF,yF,yF,yF,yF,yF,yF,yF,yF,yF,yF,yF,yF,yF,yF,yF,yF,yF] rfl rfl (by kernel_rfl) (fun _ _ _ h => h) (Or.inl ⟨by rfl, ?_⟩) ?_ ?_; rotate_left; (·intro w'; go_simp; with_reducible rfl); rotate_left; (·simp only [putW]; rfl)
      refine pure_ (i := 8) (N := some 60) (v := ?_) (a' := ?_) #[yT,yT,yT,yT,yT,yT,yT,yT,yT,yF,yF,yF,yF,yF,yF,yF,yF,yF,yF,yF,yF,yF,yF,yF,yF,yF,yF,yF,yF,yF,yF,yF,yF,yF,yF,yF,yF,yF,yF,yF,yF,yF] rfl rfl (by kernel_rfl) (fun _ _ _ h => h) (Or.inl ⟨by rfl, ?_⟩) ?_ ?_; rotate_left; (·intro w'; go_simp; with_reducible rfl); rotate_left; (·simp only [putW]; rfl)
      refine pure_ (i := 9) (N := some 61) (v := ?_) (a' := ?_) #[yT,yT,yT,yT,yT,yT,yT,yT,yT,yT,yF,yF,yF,yF,yF,yF,yF,yF,yF,yF,yF,yF,yF,yF,yF,yF,yF,yF,yF,yF,yF,yF,yF,yF,yF,yF,yF,yF,yF,yF,yF,yF] rfl rfl (by kernel_rfl) (fun _ _ _ h => h) (Or.inl ⟨by rfl, ?_⟩) ?_ ?_; rotate_left; (·intro w'; go_simp; with_reducible rfl); rotate_left; (·simp only [putW]; rfl)
      refine pure_ (i := 10) (N := some 62) (v := ?_) (a' := ?_) #[yT,yT,yT,yT,yT,yT,yT,yT,yT,yT,yT,yF,yF,yF,yF,yF,yF,yF,yF,yF,yF,yF,yF,yF,yF,yF,yF,yF,yF,yF,yF,yF,yF,yF,yF,yF,yF,yF,yF,yF,yF,yF] rfl rfl (by kernel_rfl) (fun _ _ _ h => h) (Or.inl ⟨by rfl, ?_⟩) ?_ ?_; rotate_left; (·intro w'; go_simp; with_reducible rfl); rotate_left; (·simp only [putW]; rfl)
      refine take_ (i := 12) (N := some 64) (v := ?_) (a' := ?_) #[yT,yT,yT,yT,yT,yT,yT,yT,yT,yT,yT,yF,yT,yF,yF,yF,yF,yF,yF,yF,yF,yF,yF,yF,yF,yF,yF,yF,yF,yF,yF,yF,yF,yF,yF,yF,yF,yF,yF,yF,yF,yF] rfl rfl (by kernel_rfl) (fun _ _ _ h => h) (Or.inl ⟨by rfl, ?_⟩) hHeld ?_ ?_; rotate_left; (·rintro w' ⟨s0, s1⟩; go_simp; with_reducible rfl); rotate_left; (·simp only [putW]; rfl)
      refine pure_ (i := 13) (N := some 65) (v := ?_) (a' := ?_) #[yT,yT,yT,yT,yT,yT,yT,yT,yT,yT,yT,yF,yT,yT,yF,yF,yF,yF,yF,yF,yF,yF,yF,yF,yF,yF,yF,yF,yF,yF,yF,yF,yF,yF,yF,yF,yF,yF,yF,yF,yF,yF] rfl rfl (by kernel_rfl) (fun _ _ _ h => h) (Or.inl ⟨by rfl, ?_⟩) ?_ ?_; rotate_left; (·intro w'; go_simp; with_reducible rfl); rotate_left; (·simp only [putW]; rfl)
      refine pure_ (i := 14) (N := some 66) (v := ?_) (a' := ?_) #[yT,yT,yT,yT,yT,yT,yT,yT,yT,yT,yT,yF,yT,yT,yT,yF,yF,yF,yF,yF,yF,yF,yF,yF,yF,yF,yF,yF,yF,yF,yF,yF,yF,yF,yF,yF,yF,yF,yF,yF,yF,yF] rfl rfl (by kernel_rfl) (fun _ _ _ h => h) (Or.inl ⟨by rfl, ?_⟩) ?_ ?_; rotate_left; (·intro w'; go_simp; with_reducible rfl); rotate_left; (·simp only [putW]; rfl)
      refine one_ (i := 11) (N := some 63) #[yT,yT,yT,yT,yT,yT,yT,yT,yT,yT,yT,yT,yT,yT,yT,yF,yF,yF,yF,yF,yF,yF,yF,yF,yF,yF,yF,yF,yF,yF,yF,yF,yF,yF,yF,yF,yF,yF,yF,yF,yF,yF] rfl rfl (by kernel_rfl) (by decide) (fun K hK => ?_)
      refine goes_ Try.func23 (by kernel_rfl) rfl #[.pointer (some ⟨p, 0, none⟩), .int .i64 a3] (by rfl) rfl rfl byL ?_
      refine (Hier_Up.calls HH.out HK.out.ok a3 (HK.out.capu (by omega) _)).mono ?_
      rintro e wN ⟨v, rfl, hr, hb⟩
      rw [HUP.out] at hr
      obtain ⟨Ae, ce, rfl⟩ := Kd.R_slice hr
      have hCx := Kd.R_reads' hr
      have HE := Aside0.mk hCx.2.2
      have HEC := Aside0.mk hCx.2.1
      replace HG := Aside0.mk (Kd.C_below HG.out hb)
      replace HL := Aside0.mk (Kd.C_below HL.out hb)
      replace HH := Aside0.mk (HH.out.below hb)
      replace HB := Aside0.mk (below_more HB.out (Nat.le_refl _) hb)
      clear hr hCx
      refine ⟨_, rfl, ?_⟩
      refine hK.out _ _ ⟨pw_cell_below hb hHeld.1, pw_cell_below hb hHeld.2⟩ (fun hHeld => ?_)
      clear hK K
      refine norm_ (a' := ?_) ?_ ?_; rotate_left; (·show Act.put _ (some 63) _ = _; simp only [putW]; rfl)
      clear hb
      refine one_ (i := 15) (N := some 67) #[yT,yT,yT,yT,yT,yT,yT,yT,yT,yT,yT,yT,yT,yT,yT,yT,yF,yF,yF,yF,yF,yF,yF,yF,yF,yF,yF,yF,yF,yF,yF,yF,yF,yF,yF,yF,yF,yF,yF,yF,yF,yF] rfl rfl (by kernel_rfl) (by decide) (fun K hK => ?_)
      refine goes_ Try.func24 (by kernel_rfl) rfl #[.agg #[.int .i64 (n : Int), .slice A0_1 l0_1.length c0_1], .slice A1 l1.length c1, .int .i64 a3] (by rfl) rfl rfl byL ?_
      refine (mapmakerref40_Up.calls ku (n : Int) A0_1 c0_1 l0_1 A1 c1 l1 a3 up _ HG.out HGC.out HL.out HLC.out HKU.out).mono ?_
      rintro e wN ⟨v, rfl, hr, hb⟩
      obtain ⟨Af, cf, rfl⟩ := Kd.R_slice hr
      have hCx := Kd.R_reads' hr
      have HF := Aside0.mk hCx.2.2
      have HFC := Aside0.mk hCx.2.1
      replace HG := Aside0.mk (Kd.C_below HG.out hb)
      replace HL := Aside0.mk (Kd.C_below HL.out hb)
      replace HH := Aside0.mk (HH.out.below hb)
      replace HB := Aside0.mk (below_more HB.out (Nat.le_refl _) hb)
      replace HE := Aside0.mk (Kd.C_below HE.out hb)
      clear hr hCx
      refine ⟨_, rfl, ?_⟩
      refine hK.out _ _ ⟨pw_cell_below hb hHeld.1, pw_cell_below hb hHeld.2⟩ (fun hHeld => ?_)
      clear hK K
      refine norm_ (a' := ?_) ?_ ?_; rotate_left; (·show Act.put _ (some 67) _ = _; simp only [putW]; rfl)
      clear hb
      refine one_ (i := 16) (N := some 68) #[yT,yT,yT,yT,yT,yT,yT,yT,yT,yT,yT,yT,yT,yT,yT,yT,yT,yF,yF,yF,yF,yF,yF,yF,yF,yF,yF,yF,yF,yF,yF,yF,yF,yF,yF,yF,yF,yF,yF,yF,yF,yF] rfl rfl (by kernel_rfl) (by decide) (fun K hK => ?_)
      refine goes_ Try.func22 (by kernel_rfl) rfl #[.slice Ae up.length ce, .slice Af up.length cf] (by rfl) rfl rfl byL ?_
      refine (mapmakerref05_Equal.calls ke Ae ce _ Af cf _ true _ HE.out HEC.out HF.out HFC.out HKE.out).mono ?_
      rintro e wN ⟨rfl, hd⟩
      have hb := hd.below
      replace HG := Aside0.mk (Kd.C_below HG.out hb)
      replace HL := Aside0.mk (Kd.C_below HL.out hb)
      replace HH := Aside0.mk (HH.out.below hb)
      replace HB := Aside0.mk (below_more HB.out (Nat.le_refl _) hb)
      clear hd HE HEC HF HFC
      refine ⟨_, rfl, ?_⟩
      refine hK.out _ _ ⟨pw_cell_below hb hHeld.1, pw_cell_below hb hHeld.2⟩ (fun hHeld => ?_)
      clear hK K
      refine norm_ (a' := ?_) ?_ ?_; rotate_left; (·show Act.put _ (some 68) _ = _; simp only [putW]; rfl)
      clear hb
      refine pure_ (i := 17) (N := some 69) (v := ?_) (a' := ?_) #[yT,yT,yT,yT,yT,yT,yT,yT,yT,yT,yT,yT,yT,yT,yT,yT,yT,yT,yF,yF,yF,yF,yF,yF,yF,yF,yF,yF,yF,yF,yF,yF,yF,yF,yF,yF,yF,yF,yF,yF,yF,yF] rfl rfl (by kernel_rfl) (fun _ _ _ h => h) (Or.inl ⟨by rfl, ?_⟩) ?_ ?_; rotate_left; (·intro w'; go_simp; with_reducible rfl); rotate_left; (·simp only [putW]; rfl)
      refine pure_ (i := 18) (N := some 70) (v := ?_) (a' := ?_) #[yT,yT,yT,yT,yT,yT,yT,yT,yT,yT,yT,yT,yT,yT,yT,yT,yT,yT,yT,yF,yF,yF,yF,yF,yF,yF,yF,yF,yF,yF,yF,yF,yF,yF,yF,yF,yF,yF,yF,yF,yF,yF] rfl rfl (by kernel_rfl) (fun _ _ _ h => h) (Or.inl ⟨by rfl, ?_⟩) ?_ ?_; rotate_left; (·intro w'; go_simp; with_reducible rfl); rotate_left; (·simp only [putW]; rfl)
      refine pure_ (i := 19) (N := some 71) (v := ?_) (a' := ?_) #[yT,yT,yT,yT,yT,yT,yT,yT,yT,yT,yT,yT,yT,yT,yT,yT,yT,yT,yT,yT,yF,yF,yF,yF,yF,yF,yF,yF,yF,yF,yF,yF,yF,yF,yF,yF,yF,yF,yF,yF,yF,yF] rfl rfl (by kernel_rfl) (fun _ _ _ h => h) (Or.inl ⟨by rfl, ?_⟩) ?_ ?_; rotate_left; (·intro w'; go_simp; with_reducible rfl); rotate_left; (·simp only [putW]; rfl)
      refine pure_ (i := 20) (N := some 72) (v := ?_) (a' := ?_) #[yT,yT,yT,yT,yT,yT,yT,yT,yT,yT,yT,yT,yT,yT,yT,yT,yT,yT,yT,yT,yT,yF,yF,yF,yF,yF,yF,yF,yF,yF,yF,yF,yF,yF,yF,yF,yF,yF,yF,yF,yF,yF] rfl rfl (by kernel_rfl) (fun _ _ _ h => h) (Or.inl ⟨by rfl, ?_⟩) ?_ ?_; rotate_left; (·intro w'; go_simp; with_reducible rfl); rotate_left; (·simp only [putW]; rfl)
      refine take_ (i := 22) (N := some 74) (v := ?_) (a' := ?_) #[yT,yT,yT,yT,yT,yT,yT,yT,yT,yT,yT,yT,yT,yT,yT,yT,yT,yT,yT,yT,yT,yF,yT,yF,yF,yF,yF,yF,yF,yF,yF,yF,yF,yF,yF,yF,yF,yF,yF,yF,yF,yF] rfl rfl (by kernel_rfl) (fun _ _ _ h => h) (Or.inl ⟨by rfl, ?_⟩) hHeld ?_ ?_; rotate_left; (·rintro w' ⟨s0, s1⟩; go_simp; with_reducible rfl); rotate_left; (·simp only [putW]; rfl)
      refine pure_ (i := 23) (N := some 75) (v := ?_) (a' := ?_) #[yT,yT,yT,yT,yT,yT,yT,yT,yT,yT,yT,yT,yT,yT,yT,yT,yT,yT,yT,yT,yT,yF,yT,yT,yF,yF,yF,yF,yF,yF,yF,yF,yF,yF,yF,yF,yF,yF,yF,yF,yF,yF] rfl rfl (by kernel_rfl) (fun _ _ _ h => h) (Or.inl ⟨by rfl, ?_⟩) ?_ ?_; rotate_left; (·intro w'; go_simp; with_reducible rfl); rotate_left; (·simp only [putW]; rfl)
      refine pure_ (i := 24) (N := some 76) (v := ?_) (a' := ?_) #[yT,yT,yT,yT,yT,yT,yT,yT,yT,yT,yT,yT,yT,yT,yT,yT,yT,yT,yT,yT,yT,yF,yT,yT,yT,yF,yF,yF,yF,yF,yF,yF,yF,yF,yF,yF,yF,yF,yF,yF,yF,yF] rfl rfl (by kernel_rfl) (fun _ _ _ h => h) (Or.inl ⟨by rfl, ?_⟩) ?_ ?_; rotate_left; (·intro w'; go_simp; with_reducible rfl); rotate_left; (·simp only [putW]; rfl)
      refine one_ (i := 21) (N := some 73) #[yT,yT,yT,yT,yT,yT,yT,yT,yT,yT,yT,yT,yT,yT,yT,yT,yT,yT,yT,yT,yT,yT,yT,yT,yT,yF,yF,yF,yF,yF,yF,yF,yF,yF,yF,yF,yF,yF,yF,yF,yF,yF] rfl rfl (by kernel_rfl) (by decide) (fun K hK => ?_)
      refine goes_ Try.func25 (by kernel_rfl) rfl #[.pointer (some ⟨p, 0, none⟩), .int .i64 a3] (by rfl) rfl rfl byL ?_
      refine (Hier_Parent.calls HH.out HK.out.ok a3).mono ?_
      rintro e wN ⟨rfl, hb⟩
      rw [HPA.out]
      replace HG := Aside0.mk (Kd.C_below HG.out hb)
      replace HL := Aside0.mk (Kd.C_below HL.out hb)
      replace HH := Aside0.mk (HH.out.below hb)
      replace HB := Aside0.mk (below_more HB.out (Nat.le_refl _) hb)
      refine ⟨_, rfl, ?_⟩
      refine hK.out _ _ ⟨pw_cell_below hb hHeld.1, pw_cell_below hb hHeld.2⟩ (fun hHeld => ?_)
      clear hK K
      refine norm_ (a' := ?_) ?_ ?_; rotate_left; (·show Act.put _ (some 73) _ = _; simp only [putW]; rfl)
      clear hb
      refine one_ (i := 25) (N := some 77) #[yT,yT,yT,yT,yT,yT,yT,yT,yT,yT,yT,yT,yT,yT,yT,yT,yT,yT,yT,yT,yT,yT,yT,yT,yT,yT,yF,yF,yF,yF,yF,yF,yF,yF,yF,yF,yF,yF,yF,yF,yF,yF] rfl rfl (by kernel_rfl) (by decide) (fun K hK => ?_)
      refine goes_ Try.func26 (by kernel_rfl) rfl #[.agg #[.int .i64 (n : Int), .slice A0_1 l0_1.length c0_1], .slice A1 l1.length c1, .int .i64 a3] (by rfl) rfl rfl byL ?_
      refine (mapmakerref40_Parent.calls kp (n : Int) A0_1 c0_1 l0_1 A1 c1 l1 a3 pa _ HG.out HGC.out HL.out HLC.out HKP.out).mono ?_
      rintro e wN ⟨rfl, hb⟩
      replace HG := Aside0.mk (Kd.C_below HG.out hb)
      replace HL := Aside0.mk (Kd.C_below HL.out hb)
      replace HH := Aside0.mk (HH.out.below hb)
      replace HB := Aside0.mk (below_more HB.out (Nat.le_refl _) hb)
      refine ⟨_, rfl, ?_⟩
      refine hK.out _ _ ⟨pw_cell_below hb hHeld.1, pw_cell_below hb hHeld.2⟩ (fun hHeld => ?_)
      clear hK K
      refine norm_ (a' := ?_) ?_ ?_; rotate_left; (·show Act.put _ (some 77) _ = _; simp only [putW]; rfl)
      clear hb
      refine pure_ (i := 26) (N := some 78) (v := ?_) (a' := ?_) #[yT,yT,yT,yT,yT,yT,yT,yT,yT,yT,yT,yT,yT,yT,yT,yT,yT,yT,yT,yT,yT,yT,yT,yT,yT,yT,yT,yF,yF,yF,yF,yF,yF,yF,yF,yF,yF,yF,yF,yF,yF,yF] rfl rfl (by kernel_rfl) (fun _ _ _ h => h) (Or.inl ⟨by rfl, ?_⟩) ?_ ?_; rotate_left; (·intro w'; go_simp; with_reducible rfl); rotate_left; (·simp only [putW]; rfl)
      refine pure_ (i := 27) (N := some 79) (v := ?_) (a' := ?_) #[yT,yT,yT,yT,yT,yT,yT,yT,yT,yT,yT,yT,yT,yT,yT,yT,yT,yT,yT,yT,yT,yT,yT,yT,yT,yT,yT,yT,yF,yF,yF,yF,yF,yF,yF,yF,yF,yF,yF,yF,yF,yF] rfl rfl (by kernel_rfl) (fun _ _ _ h => h) (Or.inl ⟨by rfl, ?_⟩) ?_ ?_; rotate_left; (·intro w'; go_simp; with_reducible rfl); rotate_left; (·simp only [putW]; rfl)
      refine pure_ (i := 28) (N := some 80) (v := ?_) (a' := ?_) #[yT,yT,yT,yT,yT,yT,yT,yT,yT,yT,yT,yT,yT,yT,yT,yT,yT,yT,yT,yT,yT,yT,yT,yT,yT,yT,yT,yT,yT,yF,yF,yF,yF,yF,yF,yF,yF,yF,yF,yF,yF,yF] rfl rfl (by kernel_rfl) (fun _ _ _ h => h) (Or.inl ⟨by rfl, ?_⟩) ?_ ?_; rotate_left; (·intro w'; go_simp; with_reducible rfl); rotate_left; (·simp only [putW]; rfl)
      refine pure_ (i := 29) (N := some 81) (v := ?_) (a' := ?_) #[yT,yT,yT,yT,yT,yT,yT,yT,yT,yT,yT,yT,yT,yT,yT,yT,yT,yT,yT,yT,yT,yT,yT,yT,yT,yT,yT,yT,yT,yT,yF,yF,yF,yF,yF,yF,yF,yF,yF,yF,yF,yF] rfl rfl (by kernel_rfl) (fun _ _ _ h => h) (Or.inl ⟨by rfl, ?_⟩) ?_ ?_; rotate_left; (·intro w'; go_simp; with_reducible rfl); rotate_left; (·simp only [putW]; rfl)
      refine pure_ (i := 30) (N := some 82) (v := ?_) (a' := ?_) #[yT,yT,yT,yT,yT,yT,yT,yT,yT,yT,yT,yT,yT,yT,yT,yT,yT,yT,yT,yT,yT,yT,yT,yT,yT,yT,yT,yT,yT,yT,yT,yF,yF,yF,yF,yF,yF,yF,yF,yF,yF,yF] rfl rfl (by kernel_rfl) (fun _ _ _ h => h) (Or.inl ⟨by rfl, ?_⟩) ?_ ?_; rotate_left; (·intro w'; go_simp; with_reducible rfl); rotate_left; (·simp only [putW]; rfl)
      refine take_ (i := 32) (N := some 84) (v := ?_) (a' := ?_) #[yT,yT,yT,yT,yT,yT,yT,yT,yT,yT,yT,yT,yT,yT,yT,yT,yT,yT,yT,yT,yT,yT,yT,yT,yT,yT,yT,yT,yT,yT,yT,yF,yT,yF,yF,yF,yF,yF,yF,yF,yF,yF] rfl rfl (by kernel_rfl) (fun _ _ _ h => h) (Or.inl ⟨by rfl, ?_⟩) hHeld ?_ ?_; rotate_left; (·rintro w' ⟨s0, s1⟩; go_simp; with_reducible rfl); rotate_left; (·simp only [putW]; rfl)
      refine pure_ (i := 33) (N := some 85) (v := ?_) (a' := ?_) #[yT,yT,yT,yT,yT,yT,yT,yT,yT,yT,yT,yT,yT,yT,yT,yT,yT,yT,yT,yT,yT,yT,yT,yT,yT,yT,yT,yT,yT,yT,yT,yF,yT,yT,yF,yF,yF,yF,yF,yF,yF,yF] rfl rfl (by kernel_rfl) (fun _ _ _ h => h) (Or.inl ⟨by rfl, ?_⟩) ?_ ?_; rotate_left; (·intro w'; go_simp; with_reducible rfl); rotate_left; (·simp only [putW]; rfl)
      refine pure_ (i := 34) (N := some 86) (v := ?_) (a' := ?_) #[yT,yT,yT,yT,yT,yT,yT,yT,yT,yT,yT,yT,yT,yT,yT,yT,yT,yT,yT,yT,yT,yT,yT,yT,yT,yT,yT,yT,yT,yT,yT,yF,yT,yT,yT,yF,yF,yF,yF,yF,yF,yF] rfl rfl (by kernel_rfl) (fun _ _ _ h => h) (Or.inl ⟨by rfl, ?_⟩) ?_ ?_; rotate_left; (·intro w'; go_simp; with_reducible rfl); rotate_left; (·simp only [putW]; rfl)
      refine one_ (i := 31) (N := some 83) #[yT,yT,yT,yT,yT,yT,yT,yT,yT,yT,yT,yT,yT,yT,yT,yT,yT,yT,yT,yT,yT,yT,yT,yT,yT,yT,yT,yT,yT,yT,yT,yT,yT,yT,yT,yF,yF,yF,yF,yF,yF,yF] rfl rfl (by kernel_rfl) (by decide) (fun K hK => ?_)
      refine goes_ Try.func20 (by kernel_rfl) rfl #[.pointer (some ⟨p, 0, none⟩), .int .i64 a4] (by rfl) rfl rfl byL ?_
      refine (Hier_Lower.calls HH.out HK.out.ok HK.out.ends (HK.out.capd (by omega)) a4).mono ?_
      rintro e wN ⟨v, rfl, hr, hb⟩
      rw [HLO.out] at hr
      obtain ⟨Ae, ce, rfl⟩ := Kd.R_slice hr
      have hCx := Kd.R_reads' hr
      have HE := Aside0.mk hCx.2.2
      have HEC := Aside0.mk hCx.2.1
      replace HG := Aside0.mk (Kd.C_below HG.out hb)
      replace HL := Aside0.mk (Kd.C_below HL.out hb)
      replace HH := Aside0.mk (HH.out.below hb)
      replace HB := Aside0.mk (below_more HB.out (Nat.le_refl _) hb)
      clear hr hCx
      refine ⟨_, rfl, ?_⟩
      refine hK.out _ _ ⟨pw_cell_below hb hHeld.1, pw_cell_below hb hHeld.2⟩ (fun hHeld => ?_)
      clear hK K
      refine norm_ (a' := ?_) ?_ ?_; rotate_left; (·show Act.put _ (some 83) _ = _; simp only [putW]; rfl)
      clear hb
      refine one_ (i := 35) (N := some 87) #[yT,yT,yT,yT,yT,yT,yT,yT,yT,yT,yT,yT,yT,yT,yT,yT,yT,yT,yT,yT,yT,yT,yT,yT,yT,yT,yT,yT,yT,yT,yT,yT,yT,yT,yT,yT,yF,yF,yF,yF,yF,yF] rfl rfl (by kernel_rfl) (by decide) (fun K hK => ?_)
      refine goes_ Try.func27 (by kernel_rfl) rfl #[.agg #[.int .i64 (n : Int), .slice A0_1 l0_1.length c0_1], .slice A1 l1.length c1, .int .i64 a4] (by rfl) rfl rfl byL ?_
      refine (mapmakerref40_Lower.calls kl (n : Int) A0_1 c0_1 l0_1 A1 c1 l1 a4 lo _ HG.out HGC.out HL.out HLC.out HKL.out).mono ?_
      rintro e wN ⟨v, rfl, hr, hb⟩
      obtain ⟨Af, cf, rfl⟩ := Kd.R_slice hr
      have hCx := Kd.R_reads' hr
      have HF := Aside0.mk hCx.2.2
      have HFC := Aside0.mk hCx.2.1
      replace HG := Aside0.mk (Kd.C_below HG.out hb)
      replace HL := Aside0.mk (Kd.C_below HL.out hb)
      replace HH := Aside0.mk (HH.out.below hb)
      replace HB := Aside0.mk (below_more HB.out (Nat.le_refl _) hb)
      replace HE := Aside0.mk (Kd.C_below HE.out hb)
      clear hr hCx
      refine ⟨_, rfl, ?_⟩
      refine hK.out _ _ ⟨pw_cell_below hb hHeld.1, pw_cell_below hb hHeld.2⟩ (fun hHeld => ?_)
      clear hK K
      refine norm_ (a' := ?_) ?_ ?_; rotate_left; (·show Act.put _ (some 87) _ = _; simp only [putW]; rfl)
      clear hb
      refine one_ (i := 36) (N := some 88) #[yT,yT,yT,yT,yT,yT,yT,yT,yT,yT,yT,yT,yT,yT,yT,yT,yT,yT,yT,yT,yT,yT,yT,yT,yT,yT,yT,yT,yT,yT,yT,yT,yT,yT,yT,yT,yT,yF,yF,yF,yF,yF] rfl rfl (by kernel_rfl) (by decide) (fun K hK => ?_)
      refine goes_ Try.func22 (by kernel_rfl) rfl #[.slice Ae lo.length ce, .slice Af lo.length cf] (by rfl) rfl rfl byL ?_
      refine (mapmakerref05_Equal.calls kg Ae ce _ Af cf _ true _ HE.out HEC.out HF.out HFC.out HKG.out).mono ?_
      rintro e wN ⟨rfl, hd⟩
      have hb := hd.below
      replace HG := Aside0.mk (Kd.C_below HG.out hb)
      replace HL := Aside0.mk (Kd.C_below HL.out hb)
      replace HH := Aside0.mk (HH.out.below hb)
      replace HB := Aside0.mk (below_more HB.out (Nat.le_refl _) hb)
      clear hd HE HEC HF HFC
      refine ⟨_, rfl, ?_⟩
      refine hK.out _ _ ⟨pw_cell_below hb hHeld.1, pw_cell_below hb hHeld.2⟩ (fun hHeld => ?_)
      clear hK K
      refine norm_ (a' := ?_) ?_ ?_; rotate_left; (·show Act.put _ (some 88) _ = _; simp only [putW]; rfl)
      clear hb
      refine pure_ (i := 37) (N := some 89) (v := ?_) (a' := ?_) #[yT,yT,yT,yT,yT,yT,yT,yT,yT,yT,yT,yT,yT,yT,yT,yT,yT,yT,yT,yT,yT,yT,yT,yT,yT,yT,yT,yT,yT,yT,yT,yT,yT,yT,yT,yT,yT,yT,yF,yF,yF,yF] rfl rfl (by kernel_rfl) (fun _ _ _ h => h) (Or.inl ⟨by rfl, ?_⟩) ?_ ?_; rotate_left; (·intro w'; go_simp; with_reducible rfl); rotate_left; (·simp only [putW]; rfl)
      refine pure_ (i := 38) (N := some 90) (v := ?_) (a' := ?_) #[yT,yT,yT,yT,yT,yT,yT,yT,yT,yT,yT,yT,yT,yT,yT,yT,yT,yT,yT,yT,yT,yT,yT,yT,yT,yT,yT,yT,yT,yT,yT,yT,yT,yT,yT,yT,yT,yT,yT,yF,yF,yF] rfl rfl (by kernel_rfl) (fun _ _ _ h => h) (Or.inl ⟨by rfl, ?_⟩) ?_ ?_; rotate_left; (·intro w'; go_simp; with_reducible rfl); rotate_left; (·simp only [putW]; rfl)
      refine one_ (i := 39) (N := some 91) #[yT,yT,yT,yT,yT,yT,yT,yT,yT,yT,yT,yT,yT,yT,yT,yT,yT,yT,yT,yT,yT,yT,yT,yT,yT,yT,yT,yT,yT,yT,yT,yT,yT,yT,yT,yT,yT,yT,yT,yT,yF,yF] rfl rfl (by kernel_rfl) (by decide) (fun K hK => ?_)
      refine goes_ Try.func13 (by kernel_rfl) rfl #[] (by rfl) rfl rfl byL ?_
      refine (mapmakerlaw40_lives.calls _).mono ?_
      rintro e wN ⟨rfl, hb⟩
      replace HB := Aside0.mk (below_more HB.out (Nat.le_refl _) hb)
      refine ⟨_, rfl, ?_⟩
      refine hK.out _ _ ⟨pw_cell_below hb hHeld.1, pw_cell_below hb hHeld.2⟩ (fun hHeld => ?_)
      clear hK K
      refine norm_ (a' := ?_) ?_ ?_; rotate_left; (·show Act.put _ (some 91) _ = _; simp only [putW]; rfl)
      clear hb
      refine pure_ (i := 40) (N := some 92) (v := ?_) (a' := ?_) #[yT,yT,yT,yT,yT,yT,yT,yT,yT,yT,yT,yT,yT,yT,yT,yT,yT,yT,yT,yT,yT,yT,yT,yT,yT,yT,yT,yT,yT,yT,yT,yT,yT,yT,yT,yT,yT,yT,yT,yT,yT,yF] rfl rfl (by kernel_rfl) (fun _ _ _ h => h) (Or.inl ⟨by rfl, ?_⟩) ?_ ?_; rotate_left; (·intro w'; go_simp; with_reducible rfl); rotate_left; (·simp only [putW]; rfl)
      refine pure_ (i := 41) (N := some 10) (v := ?_) (a' := ?_) #[yT,yT,yT,yT,yT,yT,yT,yT,yT,yT,yT,yT,yT,yT,yT,yT,yT,yT,yT,yT,yT,yT,yT,yT,yT,yT,yT,yT,yT,yT,yT,yT,yT,yT,yT,yT,yT,yT,yT,yT,yT,yT] rfl rfl (by kernel_rfl) (fun _ _ _ h => h) (Or.inl ⟨by rfl, ?_⟩) ?_ ?_; rotate_left; (·intro w'; go_simp; with_reducible rfl); rotate_left; (·simp only [putW]; rfl)
      refine done_ (by kernel_rfl) ?_
      go_wp2
      go_ret
      exact ⟨rfl, HB.out⟩
end Go.Proofs.Ytcfeehaoeaoegaa.Print
