/- ContractBuilds: New returns the specified error or a hierarchy with the specified edges, graph, order and ranks. Printed by gen_hklaw1.py. -/
import Derived.Test.YtcfeehaoeaoegaaHKLives
namespace Go.Proofs.Ytcfeehaoeaoegaa.Print
open Go.RowKit Go.Proofs.YtcfeehaoeaoegaaW.PrintWords Go.Proofs.YtcfeehaoeaoegaaW.PrintLast Go.Proofs.YtcfeehaoeaoegaaW.PrintMore
set_option linter.unusedVariables false
set_option linter.unusedSimpArgs false

def mapmakerlaw40_ContractBuilds.f (a0_0 : Int) (l0_1 : List S38) (l1 : List Int) (a2 : Int) : Option Bool := some true
set_option maxHeartbeats 3200000 in
set_option maxRecDepth 100000 in
theorem mapmakerlaw40_ContractBuilds.calls (a0_0 : Int) (A0_1 : Option Addr) (c0_1 : Nat) (l0_1 : List S38) (A1 : Option Addr) (c1 : Nat) (l1 : List Int) (a2 : Int) (r : Bool) (w : World) (hr0_1 : Kd.C k38 w A0_1 l0_1.length l0_1) (hc0_1 : l0_1.length ≤ c0_1)
    (hr1 : Kd.C (Kd.int .i64) w A1 l1.length l1) (hc1 : l1.length ≤ c1) (h : mapmakerlaw40_ContractBuilds.f a0_0 l0_1 l1 a2 = some r) :
    Calls Try.prog 6 #[.agg #[.int .i64 a0_0, .slice A0_1 l0_1.length c0_1], .slice A1 l1.length c1, .int .i64 a2] w fun e w' => e = .returned (.bool r) ∧ Below w.heap.size w w' := by
  injection h with h
  subst h
  have HG := Aside0.mk hr0_1
  have HL := Aside0.mk hr1
  have HGC := Aside0.mk hc0_1
  have HLC := Aside0.mk hc1
  clear hr0_1 hr1 hc0_1 hc1
  go_enter Try.func6, Try.ntmps6
  go_upto_region 1 with (fail)
  have HBK := Aside0.mk (heap_alloc_new w (Obj.cells #[.int .i64 a0_0, .slice A0_1 l0_1.length c0_1] 24))
  have HBE : Below w.heap.size w (w.alloc (Obj.cells #[.int .i64 a0_0, .slice A0_1 l0_1.length c0_1] 24)) := (Below.refl _ _).alloc (Nat.le_refl _) _
  replace HG := Aside0.mk (Kd.C_below HG.out HBE)
  replace HL := Aside0.mk (Kd.C_below HL.out HBE)
  have HB := Aside0.mk HBE
  generalize w.alloc (Obj.cells #[.int .i64 a0_0, .slice A0_1 l0_1.length c0_1] 24) = w1 at HBK HG HL HB ⊢
  clear HBE
  have hc0 := (blk_cell HBK.out 0).trans rfl
  have hc1 := (blk_cell HBK.out 1).trans rfl
  obtain ⟨fb, hfb, hfw⟩ : ∃ fb, mapmakerlaw40_few.f a0_0 l0_1 l1 = some fb ∧ (fb = true → l0_1.length ≤ 30 ∧ (a0_0 ≤ 10 ∨ a0_0 > 1048576) ∧ l1.length ≤ 20) := by
    unfold mapmakerlaw40_few.f
    by_cases h1 : (l0_1.length : Int) ≤ 30
    · by_cases h2 : a0_0 ≤ 10
      · refine ⟨_, by rw [if_pos h1, if_pos h2], fun h => ?_⟩
        rw [decide_eq_true_eq] at h
        omega
      · by_cases h3 : a0_0 > 1048576
        · refine ⟨_, by rw [if_pos h1, if_neg h2, if_pos h3], fun h => ?_⟩
          rw [decide_eq_true_eq] at h
          omega
        · exact ⟨_, by rw [if_pos h1, if_neg h2, if_neg h3], fun h => by cases h⟩
    · exact ⟨_, by rw [if_neg h1], fun h => by cases h⟩
  have HFB := Aside0.mk hfb
  clear hfb
  go_wp2_with (fail)
  refine (mapmakerlaw40_few.calls a0_0 A0_1 c0_1 l0_1 A1 c1 l1 fb _ HG.out HGC.out HL.out HLC.out HFB.out).mono ?_
  rintro e w2 ⟨rfl, hb2⟩
  replace HBK := Aside0.mk (blk_below HBK.out hb2)
  replace HG := Aside0.mk (Kd.C_below HG.out hb2)
  replace HL := Aside0.mk (Kd.C_below HL.out hb2)
  replace HB := Aside0.mk (below_more HB.out (Nat.le_refl _) hb2)
  clear hb2 hc0 hc1 HFB
  cases fb with
  | false =>
    clear hfw
    go_wp2_with (fail)
    refine (mapmakerlaw40_lives.calls _).mono ?_
    rintro e w3 ⟨rfl, hb3⟩
    replace HB := Aside0.mk (below_more HB.out (Nat.le_refl _) hb3)
    clear hb3
    go_wp2
    go_ret
    exact ⟨rfl, HB.out⟩
  | true =>
  obtain ⟨hf1, hf2, hf3⟩ := hfw rfl
  have hN3 : a0_0 ≤ 1000 ∨ a0_0 > 1048576 := by omega
  have hA3 : l0_1.length ≤ 1000000 := by omega
  have hL3 : l1.length ≤ 1000000 := by omega
  clear hfw
  have hc0 := (blk_cell HBK.out 0).trans rfl
  have hc1 := (blk_cell HBK.out 1).trans rfl
  · go_wp2_with (fail)
    refine (contract_New.calls HG.out HGC.out HL.out HLC.out hN3 hA3 hL3).mono ?_
    rintro e w4 ⟨hb4, (⟨hne, rfl⟩ | ⟨hne, p, rfl, hH⟩)⟩
    · replace HBK := Aside0.mk (blk_below HBK.out hb4)
      replace HG := Aside0.mk (Kd.C_below HG.out hb4)
      replace HL := Aside0.mk (Kd.C_below HL.out hb4)
      replace HB := Aside0.mk (below_more HB.out (Nat.le_refl _) hb4)
      clear hb4 hc0 hc1
      have HNE := Aside0.mk hne
      clear hne
      obtain ⟨kc, hkc⟩ := mapmakerref40_Check.ev a0_0 l0_1 l1 hA3 hL3
      have HKC := Aside0.mk (hkc kc (Nat.le_refl _))
      clear hkc
      have hc0 := (blk_cell HBK.out 0).trans rfl
      have hc1 := (blk_cell HBK.out 1).trans rfl
      generalize newErr a0_0 l0_1 l1 = er at HNE HKC ⊢
      have hne : ¬ er = 0 := HNE.out
      go_wp2_with (fail)
      refine (mapmakerref40_Check.calls kc a0_0 A0_1 c0_1 l0_1 A1 c1 l1 er _ HG.out HGC.out HL.out HLC.out HKC.out).mono ?_
      rintro e w5 ⟨rfl, hb5⟩
      replace HB := Aside0.mk (below_more HB.out (Nat.le_refl _) hb5)
      clear hb5 hc0 hc1 HBK HG HL HKC
      go_wp2_with (fail)
      refine (mapmakerlaw40_lives.calls _).mono ?_
      rintro e w6 ⟨rfl, hb6⟩
      replace HB := Aside0.mk (below_more HB.out (Nat.le_refl _) hb6)
      clear hb6
      go_wp2
      go_ret
      exact ⟨rfl, HB.out⟩
    · replace HBK := Aside0.mk (blk_below HBK.out hb4)
      replace HG := Aside0.mk (Kd.C_below HG.out hb4)
      replace HL := Aside0.mk (Kd.C_below HL.out hb4)
      replace HB := Aside0.mk (below_more HB.out (Nat.le_refl _) hb4)
      clear hb4 hc0 hc1
      obtain ⟨kc, hkc⟩ := mapmakerref40_Check.ev a0_0 l0_1 l1 hA3 hL3
      have HKC := Aside0.mk (hkc kc (Nat.le_refl _))
      rw [hne] at HKC
      have hchk : chk a0_0 l0_1 = 0 := by
        unfold newErr at hne
        split at hne
        · contradiction
        · rename_i hh; exact Classical.not_not.1 hh
      have hord : ordGo a0_0 l1.length [] l1 = 0 := by
        unfold newErr at hne
        rw [if_neg (fun h => h hchk)] at hne
        exact hne
      obtain ⟨hN0, hN1, _⟩ := chk_ok hchk
      obtain ⟨n, rfl⟩ := Int.eq_ofNat_of_zero_le hN0
      have hn : n ≤ 10 := by omega
      have hk : Hk n l0_1 l1 := ⟨hchk, by have := isOrd_of hN0 hord; rw [Int.toNat_natCast] at this; exact this⟩
      have HK := Aside0.mk hk
      have HH := Aside0.mk (show HierOf w4 p n l0_1 l1 by rw [Int.toNat_natCast] at hH; exact hH)
      clear hkc hchk hord hN0 hN1 hk hH hne
      have hc0 := (blk_cell HBK.out 0).trans rfl
      have hc1 := (blk_cell HBK.out 1).trans rfl
      go_wp2_with (fail)
      refine (mapmakerref40_Check.calls kc (n : Int) A0_1 c0_1 l0_1 A1 c1 l1 0 _ HG.out HGC.out HL.out HLC.out HKC.out).mono ?_
      rintro e w5 ⟨rfl, hb5⟩
      replace HBK := Aside0.mk (blk_below HBK.out hb5)
      replace HG := Aside0.mk (Kd.C_below HG.out hb5)
      replace HL := Aside0.mk (Kd.C_below HL.out hb5)
      replace HH := Aside0.mk (HH.out.below hb5)
      replace HB := Aside0.mk (below_more HB.out (Nat.le_refl _) hb5)
      clear hb5 hc0 hc1 HKC
      go_wp2_with (fail)
      refine (Hier_Graph.calls HH.out (by omega)).mono ?_
      rintro e w6 ⟨v6, rfl, hr6, hb6⟩
      obtain ⟨A6, c6, rfl⟩ := Kd.R_slice hr6
      have hC6 := Kd.R_reads' hr6
      have HX := Aside0.mk hC6.2.2
      have HXC := Aside0.mk hC6.2.1
      replace HBK := Aside0.mk (blk_below HBK.out hb6)
      replace HG := Aside0.mk (Kd.C_below HG.out hb6)
      replace HL := Aside0.mk (Kd.C_below HL.out hb6)
      replace HH := Aside0.mk (HH.out.below hb6)
      replace HB := Aside0.mk (below_more HB.out (Nat.le_refl _) hb6)
      clear hb6 hr6 hC6
      go_upto_region 9 with (fail)
      have HB9 := Aside0.mk (heap_alloc_new w6 (Obj.cells #[.int .i64 (n : Int), .slice A6 l0_1.length c6] 24))
      have hbe : Below w6.heap.size w6 (w6.alloc (Obj.cells #[.int .i64 (n : Int), .slice A6 l0_1.length c6] 24)) := (Below.refl _ _).alloc (Nat.le_refl _) _
      replace HBK := Aside0.mk (blk_below HBK.out hbe)
      replace HG := Aside0.mk (Kd.C_below HG.out hbe)
      replace HL := Aside0.mk (Kd.C_below HL.out hbe)
      replace HX := Aside0.mk (Kd.C_below HX.out hbe)
      replace HH := Aside0.mk (HH.out.below hbe)
      replace HB := Aside0.mk (below_more HB.out (Nat.le_refl _) hbe)
      clear hbe
      generalize w6.alloc (Obj.cells #[.int .i64 (n : Int), .slice A6 l0_1.length c6] 24) = w8 at HB9 HBK HG HL HX HH HB ⊢
      generalize w6.heap.size = b9 at HB9 ⊢
      have hc0 := (blk_cell HBK.out 0).trans rfl
      have hc1 := (blk_cell HBK.out 1).trans rfl
      have hk0 := (blk_cell HB9.out 0).trans rfl
      have hk1 := (blk_cell HB9.out 1).trans rfl
      obtain ⟨ks1, hks1⟩ := mapmakerref40_Same.ev (hierS n l0_1 l1).edges (hierS n l0_1 l1).edges (by have := HK.out.short (by omega); omega)
      have HKS1 : Aside0 (mapmakerref40_Same.f ks1 (hierS n l0_1 l1).edges (hierS n l0_1 l1).edges = some true) := ⟨(hks1 ks1 (Nat.le_refl _)).trans (by rw [decide_eq_true rfl])⟩
      obtain ⟨ks2, hks2⟩ := mapmakerref40_Same.ev l0_1 l0_1 (by omega)
      have HKS2 : Aside0 (mapmakerref40_Same.f ks2 l0_1 l0_1 = some true) := ⟨(hks2 ks2 (Nat.le_refl _)).trans (by rw [decide_eq_true rfl])⟩
      obtain ⟨ke, hke⟩ := mapmakerref05_Equal.ev l1 l1 (by omega)
      have HKE : Aside0 (mapmakerref05_Equal.f ke l1 l1 = some true) := ⟨(hke ke (Nat.le_refl _)).trans (by rw [decide_eq_true rfl])⟩
      obtain ⟨kr, hkr⟩ := mapmakerref40_Rank.ev l1 a2 (by omega)
      have HKR := Aside0.mk (hkr kr (Nat.le_refl _))
      clear hks1 hks2 hke hkr
      refine start_ (n := 39) (S := fun w' => w'.cell? ⟨w.heap.size, 0, none⟩ = some (.int .i64 (n : Int)) ∧ w'.cell? ⟨w.heap.size, 1, none⟩ = some (.slice A0_1 l0_1.length c0_1) ∧ w'.cell? ⟨b9, 0, none⟩ = some (.int .i64 (n : Int)) ∧ w'.cell? ⟨b9, 1, none⟩ = some (.slice A6 l0_1.length c6)) (ds := []) #[yF,yF,yF,yF,yF,yF,yF,yF,yF,yF,yF,yF,yF,yF,yF,yF,yF,yF,yF,yF,yF,yF,yF,yF,yF,yF,yF,yF,yF,yF,yF,yF,yF,yF,yF,yF,yF,yF,yF] (by kernel_rfl) rfl rfl ⟨hc0, hc1, hk0, hk1⟩ (fun hHeld => ?_)
      replace HG := Aside0.mk (Kd.C_below HG.out (below_drew (Below.refl _ _)))
      replace HL := Aside0.mk (Kd.C_below HL.out (below_drew (Below.refl _ _)))
      replace HX := Aside0.mk (Kd.C_below HX.out (below_drew (Below.refl _ _)))
      replace HH := Aside0.mk (HH.out.below (below_drew (Below.refl _ _)))
      replace HB := Aside0.mk (below_more HB.out (Nat.le_refl _) (below_drew (Below.refl _ _)))
      generalize w8.drew = we at HG HL HX HH HB hHeld ⊢
      clear hc0 hc1 hk0 hk1
      refine pure_ (i := 0) (N := some 38) (v := ?_) (a' := ?_) #[yT,yF,yF,yF,yF,yF,yF,yF,yF,yF,yF,yF,yF,yF,yF,yF,yF,yF,yF,yF,yF,yF,yF,yF,yF,yF,yF,yF,yF,yF,yF,yF,yF,yF,yF,yF,yF,yF,yF] rfl rfl (by kernel_rfl) (fun _ _ _ h => h) (Or.inl ⟨by rfl, ?_⟩) ?_ ?_; rotate_left; (·intro w'; go_simp; with_reducible rfl); rotate_left; (·simp only [putW]; rfl)
      refine take_ (i := 2) (N := some 40) (v := ?_) (a' := ?_) #[yT,yF,yT,yF,yF,yF,yF,yF,yF,yF,yF,yF,yF,yF,yF,yF,yF,yF,yF,yF,yF,yF,yF,yF,yF,yF,yF,yF,yF,yF,yF,yF,yF,yF,yF,yF,yF,yF,yF] rfl rfl (by kernel_rfl) (fun _ _ _ h => h) (Or.inl ⟨by rfl, ?_⟩) hHeld ?_ ?_; rotate_left; (·rintro w' ⟨s0, s1, s2, s3⟩; go_simp; with_reducible rfl); rotate_left; (·simp only [putW]; rfl)
      refine pure_ (i := 3) (N := some 41) (v := ?_) (a' := ?_) #[yT,yF,yT,yT,yF,yF,yF,yF,yF,yF,yF,yF,yF,yF,yF,yF,yF,yF,yF,yF,yF,yF,yF,yF,yF,yF,yF,yF,yF,yF,yF,yF,yF,yF,yF,yF,yF,yF,yF] rfl rfl (by kernel_rfl) (fun _ _ _ h => h) (Or.inl ⟨by rfl, ?_⟩) ?_ ?_; rotate_left; (·intro w'; go_simp; with_reducible rfl); rotate_left; (·simp only [putW]; rfl)
      refine one_ (i := 1) (N := some 39) #[yT,yT,yT,yT,yF,yF,yF,yF,yF,yF,yF,yF,yF,yF,yF,yF,yF,yF,yF,yF,yF,yF,yF,yF,yF,yF,yF,yF,yF,yF,yF,yF,yF,yF,yF,yF,yF,yF,yF] rfl rfl (by kernel_rfl) (by decide) (fun K hK => ?_)
      refine goes_ Try.func16 (by kernel_rfl) rfl #[.pointer (some ⟨p, 0, none⟩)] (by rfl) rfl rfl byL ?_
      refine (Hier_Edges.calls HH.out (by have := HK.out.short (by omega); omega)).mono ?_
      rintro e wN ⟨v, rfl, hr, hb⟩
      obtain ⟨Ae, ce, rfl⟩ := Kd.R_slice hr
      have hCx := Kd.R_reads' hr
      have HE := Aside0.mk hCx.2.2
      have HEC := Aside0.mk hCx.2.1
      replace HG := Aside0.mk (Kd.C_below HG.out hb)
      replace HL := Aside0.mk (Kd.C_below HL.out hb)
      replace HX := Aside0.mk (Kd.C_below HX.out hb)
      replace HH := Aside0.mk (HH.out.below hb)
      replace HB := Aside0.mk (below_more HB.out (Nat.le_refl _) hb)
      clear hr hCx
      refine ⟨_, rfl, ?_⟩
      refine hK.out _ _ ⟨pw_cell_below hb hHeld.1, pw_cell_below hb hHeld.2.1, pw_cell_below hb hHeld.2.2.1, pw_cell_below hb hHeld.2.2.2⟩ (fun hHeld => ?_)
      clear hK K
      refine norm_ (a' := ?_) ?_ ?_; rotate_left; (·show Act.put _ (some 39) _ = _; simp only [putW]; rfl)
      clear hb
      refine one_ (i := 4) (N := some 42) #[yT,yT,yT,yT,yT,yF,yF,yF,yF,yF,yF,yF,yF,yF,yF,yF,yF,yF,yF,yF,yF,yF,yF,yF,yF,yF,yF,yF,yF,yF,yF,yF,yF,yF,yF,yF,yF,yF,yF] rfl rfl (by kernel_rfl) (by decide) (fun K hK => ?_)
      refine goes_ Try.func31 (by kernel_rfl) rfl #[.agg #[.int .i64 (n : Int), .slice A0_1 l0_1.length c0_1], .slice A1 l1.length c1] (by rfl) rfl rfl byL ?_
      refine (mapmakerref40_Edges.calls (n : Int) A0_1 c0_1 l0_1 A1 c1 l1 (hierS n l0_1 l1).edges _ HG.out HGC.out HL.out HLC.out (HK.out.f_edges (by omega) (by omega))).mono ?_
      rintro e wN ⟨v, rfl, hr, hb⟩
      obtain ⟨Af, cf, rfl⟩ := Kd.R_slice hr
      have hCx := Kd.R_reads' hr
      have HF := Aside0.mk hCx.2.2
      have HFC := Aside0.mk hCx.2.1
      replace HG := Aside0.mk (Kd.C_below HG.out hb)
      replace HL := Aside0.mk (Kd.C_below HL.out hb)
      replace HX := Aside0.mk (Kd.C_below HX.out hb)
      replace HH := Aside0.mk (HH.out.below hb)
      replace HB := Aside0.mk (below_more HB.out (Nat.le_refl _) hb)
      replace HE := Aside0.mk (Kd.C_below HE.out hb)
      clear hr hCx
      refine ⟨_, rfl, ?_⟩
      refine hK.out _ _ ⟨pw_cell_below hb hHeld.1, pw_cell_below hb hHeld.2.1, pw_cell_below hb hHeld.2.2.1, pw_cell_below hb hHeld.2.2.2⟩ (fun hHeld => ?_)
      clear hK K
      refine norm_ (a' := ?_) ?_ ?_; rotate_left; (·show Act.put _ (some 42) _ = _; simp only [putW]; rfl)
      clear hb
      refine one_ (i := 5) (N := some 43) #[yT,yT,yT,yT,yT,yT,yF,yF,yF,yF,yF,yF,yF,yF,yF,yF,yF,yF,yF,yF,yF,yF,yF,yF,yF,yF,yF,yF,yF,yF,yF,yF,yF,yF,yF,yF,yF,yF,yF] rfl rfl (by kernel_rfl) (by decide) (fun K hK => ?_)
      refine goes_ Try.func30 (by kernel_rfl) rfl #[.slice Ae (hierS n l0_1 l1).edges.length ce, .slice Af (hierS n l0_1 l1).edges.length cf] (by rfl) rfl rfl byL ?_
      refine (mapmakerref40_Same.calls ks1 Ae ce _ Af cf _ true _ HE.out HEC.out HF.out HFC.out HKS1.out).mono ?_
      rintro e wN ⟨rfl, hd⟩
      have hb := hd.below
      replace HG := Aside0.mk (Kd.C_below HG.out hb)
      replace HL := Aside0.mk (Kd.C_below HL.out hb)
      replace HX := Aside0.mk (Kd.C_below HX.out hb)
      replace HH := Aside0.mk (HH.out.below hb)
      replace HB := Aside0.mk (below_more HB.out (Nat.le_refl _) hb)
      clear hd HE HEC HF HFC
      refine ⟨_, rfl, ?_⟩
      refine hK.out _ _ ⟨pw_cell_below hb hHeld.1, pw_cell_below hb hHeld.2.1, pw_cell_below hb hHeld.2.2.1, pw_cell_below hb hHeld.2.2.2⟩ (fun hHeld => ?_)
      clear hK K
      refine norm_ (a' := ?_) ?_ ?_; rotate_left; (·show Act.put _ (some 43) _ = _; simp only [putW]; rfl)
      clear hb
      refine pure_ (i := 6) (N := some 44) (v := ?_) (a' := ?_) #[yT,yT,yT,yT,yT,yT,yT,yF,yF,yF,yF,yF,yF,yF,yF,yF,yF,yF,yF,yF,yF,yF,yF,yF,yF,yF,yF,yF,yF,yF,yF,yF,yF,yF,yF,yF,yF,yF,yF] rfl rfl (by kernel_rfl) (fun _ _ _ h => h) (Or.inl ⟨by rfl, ?_⟩) ?_ ?_; rotate_left; (·intro w'; go_simp; with_reducible rfl); rotate_left; (·simp only [putW]; rfl)
      refine pure_ (i := 7) (N := some 45) (v := ?_) (a' := ?_) #[yT,yT,yT,yT,yT,yT,yT,yT,yF,yF,yF,yF,yF,yF,yF,yF,yF,yF,yF,yF,yF,yF,yF,yF,yF,yF,yF,yF,yF,yF,yF,yF,yF,yF,yF,yF,yF,yF,yF] rfl rfl (by kernel_rfl) (fun _ _ _ h => h) (Or.inl ⟨by rfl, ?_⟩) ?_ ?_; rotate_left; (·intro w'; go_simp; with_reducible rfl); rotate_left; (·simp only [putW]; rfl)
      refine take_ (i := 8) (N := some 46) (v := ?_) (a' := ?_) #[yT,yT,yT,yT,yT,yT,yT,yT,yT,yF,yF,yF,yF,yF,yF,yF,yF,yF,yF,yF,yF,yF,yF,yF,yF,yF,yF,yF,yF,yF,yF,yF,yF,yF,yF,yF,yF,yF,yF] rfl rfl (by kernel_rfl) (fun _ _ _ h => h) (Or.inl ⟨by rfl, ?_⟩) hHeld ?_ ?_; rotate_left; (·rintro w' ⟨s0, s1, s2, s3⟩; go_simp; with_reducible rfl); rotate_left; (·simp only [putW]; rfl)
      refine pure_ (i := 9) (N := some 47) (v := ?_) (a' := ?_) #[yT,yT,yT,yT,yT,yT,yT,yT,yT,yT,yF,yF,yF,yF,yF,yF,yF,yF,yF,yF,yF,yF,yF,yF,yF,yF,yF,yF,yF,yF,yF,yF,yF,yF,yF,yF,yF,yF,yF] rfl rfl (by kernel_rfl) (fun _ _ _ h => h) (Or.inl ⟨by rfl, ?_⟩) ?_ ?_; rotate_left; (·intro w'; go_simp; with_reducible rfl); rotate_left; (·simp only [putW]; rfl)
      refine take_ (i := 10) (N := some 48) (v := ?_) (a' := ?_) #[yT,yT,yT,yT,yT,yT,yT,yT,yT,yT,yT,yF,yF,yF,yF,yF,yF,yF,yF,yF,yF,yF,yF,yF,yF,yF,yF,yF,yF,yF,yF,yF,yF,yF,yF,yF,yF,yF,yF] rfl rfl (by kernel_rfl) (fun _ _ _ h => h) (Or.inl ⟨by rfl, ?_⟩) hHeld ?_ ?_; rotate_left; (·rintro w' ⟨s0, s1, s2, s3⟩; go_simp; with_reducible rfl); rotate_left; (·simp only [putW]; rfl)
      refine pure_ (i := 11) (N := some 49) (v := ?_) (a' := ?_) #[yT,yT,yT,yT,yT,yT,yT,yT,yT,yT,yT,yT,yF,yF,yF,yF,yF,yF,yF,yF,yF,yF,yF,yF,yF,yF,yF,yF,yF,yF,yF,yF,yF,yF,yF,yF,yF,yF,yF] rfl rfl (by kernel_rfl) (fun _ _ _ h => h) (Or.inl ⟨by rfl, ?_⟩) ?_ ?_; rotate_left; (·intro w'; go_simp; with_reducible rfl); rotate_left; (·simp only [putW]; rfl)
      refine pure_ (i := 12) (N := some 50) (v := ?_) (a' := ?_) #[yT,yT,yT,yT,yT,yT,yT,yT,yT,yT,yT,yT,yT,yF,yF,yF,yF,yF,yF,yF,yF,yF,yF,yF,yF,yF,yF,yF,yF,yF,yF,yF,yF,yF,yF,yF,yF,yF,yF] rfl rfl (by kernel_rfl) (fun _ _ _ h => h) (Or.inl ⟨by rfl, ?_⟩) ?_ ?_; rotate_left; (·intro w'; go_simp; with_reducible rfl); rotate_left; (·simp only [putW]; rfl)
      refine pure_ (i := 13) (N := some 51) (v := ?_) (a' := ?_) #[yT,yT,yT,yT,yT,yT,yT,yT,yT,yT,yT,yT,yT,yT,yF,yF,yF,yF,yF,yF,yF,yF,yF,yF,yF,yF,yF,yF,yF,yF,yF,yF,yF,yF,yF,yF,yF,yF,yF] rfl rfl (by kernel_rfl) (fun _ _ _ h => h) (Or.inl ⟨by rfl, ?_⟩) ?_ ?_; rotate_left; (·intro w'; go_simp; with_reducible rfl); rotate_left; (·simp only [putW]; rfl)
      refine pure_ (i := 14) (N := some 52) (v := ?_) (a' := ?_) #[yT,yT,yT,yT,yT,yT,yT,yT,yT,yT,yT,yT,yT,yT,yT,yF,yF,yF,yF,yF,yF,yF,yF,yF,yF,yF,yF,yF,yF,yF,yF,yF,yF,yF,yF,yF,yF,yF,yF] rfl rfl (by kernel_rfl) (fun _ _ _ h => h) (Or.inl ⟨by rfl, ?_⟩) ?_ ?_; rotate_left; (·intro w'; go_simp; with_reducible rfl); rotate_left; (·simp only [putW]; rfl)
      refine take_ (i := 15) (N := some 53) (v := ?_) (a' := ?_) #[yT,yT,yT,yT,yT,yT,yT,yT,yT,yT,yT,yT,yT,yT,yT,yT,yF,yF,yF,yF,yF,yF,yF,yF,yF,yF,yF,yF,yF,yF,yF,yF,yF,yF,yF,yF,yF,yF,yF] rfl rfl (by kernel_rfl) (fun _ _ _ h => h) (Or.inl ⟨by rfl, ?_⟩) hHeld ?_ ?_; rotate_left; (·rintro w' ⟨s0, s1, s2, s3⟩; go_simp; with_reducible rfl); rotate_left; (·simp only [putW]; rfl)
      refine pure_ (i := 16) (N := some 54) (v := ?_) (a' := ?_) #[yT,yT,yT,yT,yT,yT,yT,yT,yT,yT,yT,yT,yT,yT,yT,yT,yT,yF,yF,yF,yF,yF,yF,yF,yF,yF,yF,yF,yF,yF,yF,yF,yF,yF,yF,yF,yF,yF,yF] rfl rfl (by kernel_rfl) (fun _ _ _ h => h) (Or.inl ⟨by rfl, ?_⟩) ?_ ?_; rotate_left; (·intro w'; go_simp; with_reducible rfl); rotate_left; (·simp only [putW]; rfl)
      refine take_ (i := 17) (N := some 55) (v := ?_) (a' := ?_) #[yT,yT,yT,yT,yT,yT,yT,yT,yT,yT,yT,yT,yT,yT,yT,yT,yT,yT,yF,yF,yF,yF,yF,yF,yF,yF,yF,yF,yF,yF,yF,yF,yF,yF,yF,yF,yF,yF,yF] rfl rfl (by kernel_rfl) (fun _ _ _ h => h) (Or.inl ⟨by rfl, ?_⟩) hHeld ?_ ?_; rotate_left; (·rintro w' ⟨s0, s1, s2, s3⟩; go_simp; with_reducible rfl); rotate_left; (·simp only [putW]; rfl)
      refine one_ (i := 18) (N := some 56) #[yT,yT,yT,yT,yT,yT,yT,yT,yT,yT,yT,yT,yT,yT,yT,yT,yT,yT,yT,yF,yF,yF,yF,yF,yF,yF,yF,yF,yF,yF,yF,yF,yF,yF,yF,yF,yF,yF,yF] rfl rfl (by kernel_rfl) (by decide) (fun K hK => ?_)
      refine goes_ Try.func30 (by kernel_rfl) rfl #[.slice A6 l0_1.length c6, .slice A0_1 l0_1.length c0_1] (by rfl) rfl rfl byL ?_
      refine (mapmakerref40_Same.calls ks2 A6 c6 _ A0_1 c0_1 _ true _ HX.out HXC.out HG.out HGC.out HKS2.out).mono ?_
      rintro e wN ⟨rfl, hd⟩
      have hb := hd.below
      replace HG := Aside0.mk (Kd.C_below HG.out hb)
      replace HL := Aside0.mk (Kd.C_below HL.out hb)
      replace HX := Aside0.mk (Kd.C_below HX.out hb)
      replace HH := Aside0.mk (HH.out.below hb)
      replace HB := Aside0.mk (below_more HB.out (Nat.le_refl _) hb)
      clear hd
      refine ⟨_, rfl, ?_⟩
      refine hK.out _ _ ⟨pw_cell_below hb hHeld.1, pw_cell_below hb hHeld.2.1, pw_cell_below hb hHeld.2.2.1, pw_cell_below hb hHeld.2.2.2⟩ (fun hHeld => ?_)
      clear hK K
      refine norm_ (a' := ?_) ?_ ?_; rotate_left; (·show Act.put _ (some 56) _ = _; simp only [putW]; rfl)
      clear hb
      refine pure_ (i := 19) (N := some 57) (v := ?_) (a' := ?_) #[yT,yT,yT,yT,yT,yT,yT,yT,yT,yT,yT,yT,yT,yT,yT,yT,yT,yT,yT,yT,yF,yF,yF,yF,yF,yF,yF,yF,yF,yF,yF,yF,yF,yF,yF,yF,yF,yF,yF] rfl rfl (by kernel_rfl) (fun _ _ _ h => h) (Or.inl ⟨by rfl, ?_⟩) ?_ ?_; rotate_left; (·intro w'; go_simp; with_reducible rfl); rotate_left; (·simp only [putW]; rfl)
      refine pure_ (i := 20) (N := some 58) (v := ?_) (a' := ?_) #[yT,yT,yT,yT,yT,yT,yT,yT,yT,yT,yT,yT,yT,yT,yT,yT,yT,yT,yT,yT,yT,yF,yF,yF,yF,yF,yF,yF,yF,yF,yF,yF,yF,yF,yF,yF,yF,yF,yF] rfl rfl (by kernel_rfl) (fun _ _ _ h => h) (Or.inl ⟨by rfl, ?_⟩) ?_ ?_; rotate_left; (·intro w'; go_simp; with_reducible rfl); rotate_left; (·simp only [putW]; rfl)
      refine pure_ (i := 21) (N := some 59) (v := ?_) (a' := ?_) #[yT,yT,yT,yT,yT,yT,yT,yT,yT,yT,yT,yT,yT,yT,yT,yT,yT,yT,yT,yT,yT,yT,yF,yF,yF,yF,yF,yF,yF,yF,yF,yF,yF,yF,yF,yF,yF,yF,yF] rfl rfl (by kernel_rfl) (fun _ _ _ h => h) (Or.inl ⟨by rfl, ?_⟩) ?_ ?_; rotate_left; (·intro w'; go_simp; with_reducible rfl); rotate_left; (·simp only [putW]; rfl)
      refine pure_ (i := 23) (N := some 61) (v := ?_) (a' := ?_) #[yT,yT,yT,yT,yT,yT,yT,yT,yT,yT,yT,yT,yT,yT,yT,yT,yT,yT,yT,yT,yT,yT,yF,yT,yF,yF,yF,yF,yF,yF,yF,yF,yF,yF,yF,yF,yF,yF,yF] rfl rfl (by kernel_rfl) (fun _ _ _ h => h) (Or.inl ⟨by rfl, ?_⟩) ?_ ?_; rotate_left; (·intro w'; go_simp; with_reducible rfl); rotate_left; (·simp only [putW]; rfl)
      refine one_ (i := 22) (N := some 60) #[yT,yT,yT,yT,yT,yT,yT,yT,yT,yT,yT,yT,yT,yT,yT,yT,yT,yT,yT,yT,yT,yT,yT,yT,yF,yF,yF,yF,yF,yF,yF,yF,yF,yF,yF,yF,yF,yF,yF] rfl rfl (by kernel_rfl) (by decide) (fun K hK => ?_)
      refine goes_ Try.func32 (by kernel_rfl) rfl #[.pointer (some ⟨p, 0, none⟩)] (by rfl) rfl rfl byL ?_
      refine (Hier_Order.calls HH.out (by omega)).mono ?_
      rintro e wN ⟨v, rfl, hr, hb⟩
      obtain ⟨Ao, co, rfl⟩ := Kd.R_slice hr
      have hCx := Kd.R_reads' hr
      have HO := Aside0.mk hCx.2.2
      have HOC := Aside0.mk hCx.2.1
      replace HG := Aside0.mk (Kd.C_below HG.out hb)
      replace HL := Aside0.mk (Kd.C_below HL.out hb)
      replace HX := Aside0.mk (Kd.C_below HX.out hb)
      replace HH := Aside0.mk (HH.out.below hb)
      replace HB := Aside0.mk (below_more HB.out (Nat.le_refl _) hb)
      clear hr hCx
      refine ⟨_, rfl, ?_⟩
      refine hK.out _ _ ⟨pw_cell_below hb hHeld.1, pw_cell_below hb hHeld.2.1, pw_cell_below hb hHeld.2.2.1, pw_cell_below hb hHeld.2.2.2⟩ (fun hHeld => ?_)
      clear hK K
      refine norm_ (a' := ?_) ?_ ?_; rotate_left; (·show Act.put _ (some 60) _ = _; simp only [putW]; rfl)
      clear hb
      refine one_ (i := 24) (N := some 62) #[yT,yT,yT,yT,yT,yT,yT,yT,yT,yT,yT,yT,yT,yT,yT,yT,yT,yT,yT,yT,yT,yT,yT,yT,yT,yF,yF,yF,yF,yF,yF,yF,yF,yF,yF,yF,yF,yF,yF] rfl rfl (by kernel_rfl) (by decide) (fun K hK => ?_)
      refine goes_ Try.func22 (by kernel_rfl) rfl #[.slice Ao l1.length co, .slice A1 l1.length c1] (by rfl) rfl rfl byL ?_
      refine (mapmakerref05_Equal.calls ke Ao co _ A1 c1 _ true _ HO.out HOC.out HL.out HLC.out HKE.out).mono ?_
      rintro e wN ⟨rfl, hd⟩
      have hb := hd.below
      replace HG := Aside0.mk (Kd.C_below HG.out hb)
      replace HL := Aside0.mk (Kd.C_below HL.out hb)
      replace HX := Aside0.mk (Kd.C_below HX.out hb)
      replace HH := Aside0.mk (HH.out.below hb)
      replace HB := Aside0.mk (below_more HB.out (Nat.le_refl _) hb)
      clear hd HO HOC
      refine ⟨_, rfl, ?_⟩
      refine hK.out _ _ ⟨pw_cell_below hb hHeld.1, pw_cell_below hb hHeld.2.1, pw_cell_below hb hHeld.2.2.1, pw_cell_below hb hHeld.2.2.2⟩ (fun hHeld => ?_)
      clear hK K
      refine norm_ (a' := ?_) ?_ ?_; rotate_left; (·show Act.put _ (some 62) _ = _; simp only [putW]; rfl)
      clear hb
      refine pure_ (i := 25) (N := some 63) (v := ?_) (a' := ?_) #[yT,yT,yT,yT,yT,yT,yT,yT,yT,yT,yT,yT,yT,yT,yT,yT,yT,yT,yT,yT,yT,yT,yT,yT,yT,yT,yF,yF,yF,yF,yF,yF,yF,yF,yF,yF,yF,yF,yF] rfl rfl (by kernel_rfl) (fun _ _ _ h => h) (Or.inl ⟨by rfl, ?_⟩) ?_ ?_; rotate_left; (·intro w'; go_simp; with_reducible rfl); rotate_left; (·simp only [putW]; rfl)
      refine pure_ (i := 26) (N := some 64) (v := ?_) (a' := ?_) #[yT,yT,yT,yT,yT,yT,yT,yT,yT,yT,yT,yT,yT,yT,yT,yT,yT,yT,yT,yT,yT,yT,yT,yT,yT,yT,yT,yF,yF,yF,yF,yF,yF,yF,yF,yF,yF,yF,yF] rfl rfl (by kernel_rfl) (fun _ _ _ h => h) (Or.inl ⟨by rfl, ?_⟩) ?_ ?_; rotate_left; (·intro w'; go_simp; with_reducible rfl); rotate_left; (·simp only [putW]; rfl)
      refine pure_ (i := 27) (N := some 65) (v := ?_) (a' := ?_) #[yT,yT,yT,yT,yT,yT,yT,yT,yT,yT,yT,yT,yT,yT,yT,yT,yT,yT,yT,yT,yT,yT,yT,yT,yT,yT,yT,yT,yF,yF,yF,yF,yF,yF,yF,yF,yF,yF,yF] rfl rfl (by kernel_rfl) (fun _ _ _ h => h) (Or.inl ⟨by rfl, ?_⟩) ?_ ?_; rotate_left; (·intro w'; go_simp; with_reducible rfl); rotate_left; (·simp only [putW]; rfl)
      refine pure_ (i := 28) (N := some 66) (v := ?_) (a' := ?_) #[yT,yT,yT,yT,yT,yT,yT,yT,yT,yT,yT,yT,yT,yT,yT,yT,yT,yT,yT,yT,yT,yT,yT,yT,yT,yT,yT,yT,yT,yF,yF,yF,yF,yF,yF,yF,yF,yF,yF] rfl rfl (by kernel_rfl) (fun _ _ _ h => h) (Or.inl ⟨by rfl, ?_⟩) ?_ ?_; rotate_left; (·intro w'; go_simp; with_reducible rfl); rotate_left; (·simp only [putW]; rfl)
      refine pure_ (i := 30) (N := some 68) (v := ?_) (a' := ?_) #[yT,yT,yT,yT,yT,yT,yT,yT,yT,yT,yT,yT,yT,yT,yT,yT,yT,yT,yT,yT,yT,yT,yT,yT,yT,yT,yT,yT,yT,yF,yT,yF,yF,yF,yF,yF,yF,yF,yF] rfl rfl (by kernel_rfl) (fun _ _ _ h => h) (Or.inl ⟨by rfl, ?_⟩) ?_ ?_; rotate_left; (·intro w'; go_simp; with_reducible rfl); rotate_left; (·simp only [putW]; rfl)
      refine pure_ (i := 31) (N := some 69) (v := ?_) (a' := ?_) #[yT,yT,yT,yT,yT,yT,yT,yT,yT,yT,yT,yT,yT,yT,yT,yT,yT,yT,yT,yT,yT,yT,yT,yT,yT,yT,yT,yT,yT,yF,yT,yT,yF,yF,yF,yF,yF,yF,yF] rfl rfl (by kernel_rfl) (fun _ _ _ h => h) (Or.inl ⟨by rfl, ?_⟩) ?_ ?_; rotate_left; (·intro w'; go_simp; with_reducible rfl); rotate_left; (·simp only [putW]; rfl)
      refine one_ (i := 29) (N := some 67) #[yT,yT,yT,yT,yT,yT,yT,yT,yT,yT,yT,yT,yT,yT,yT,yT,yT,yT,yT,yT,yT,yT,yT,yT,yT,yT,yT,yT,yT,yT,yT,yT,yF,yF,yF,yF,yF,yF,yF] rfl rfl (by kernel_rfl) (by decide) (fun K hK => ?_)
      refine goes_ Try.func18 (by kernel_rfl) rfl #[.pointer (some ⟨p, 0, none⟩), .int .i64 a2] (by rfl) rfl rfl byL ?_
      refine (Hier_Rank.calls HH.out HK.out.lenR a2).mono ?_
      rintro e wN ⟨rfl, rfl⟩
      rw [HK.out.rank a2]
      refine ⟨_, rfl, ?_⟩
      refine hK.out _ _ ⟨hHeld.1, hHeld.2.1, hHeld.2.2.1, hHeld.2.2.2⟩ (fun hHeld => ?_)
      clear hK K
      refine norm_ (a' := ?_) ?_ ?_; rotate_left; (·show Act.put _ (some 67) _ = _; simp only [putW]; rfl)
      refine one_ (i := 32) (N := some 70) #[yT,yT,yT,yT,yT,yT,yT,yT,yT,yT,yT,yT,yT,yT,yT,yT,yT,yT,yT,yT,yT,yT,yT,yT,yT,yT,yT,yT,yT,yT,yT,yT,yT,yF,yF,yF,yF,yF,yF] rfl rfl (by kernel_rfl) (by decide) (fun K hK => ?_)
      refine goes_ Try.func33 (by kernel_rfl) rfl #[.slice A1 l1.length c1, .int .i64 a2] (by rfl) rfl rfl byL ?_
      refine (mapmakerref40_Rank.calls kr A1 c1 l1 a2 (rrank l1 a2) _ HL.out HLC.out HKR.out).mono ?_
      rintro e wN ⟨rfl, hd⟩
      have hb := hd.below
      replace HG := Aside0.mk (Kd.C_below HG.out hb)
      replace HL := Aside0.mk (Kd.C_below HL.out hb)
      replace HX := Aside0.mk (Kd.C_below HX.out hb)
      replace HH := Aside0.mk (HH.out.below hb)
      replace HB := Aside0.mk (below_more HB.out (Nat.le_refl _) hb)
      clear hd
      refine ⟨_, rfl, ?_⟩
      refine hK.out _ _ ⟨pw_cell_below hb hHeld.1, pw_cell_below hb hHeld.2.1, pw_cell_below hb hHeld.2.2.1, pw_cell_below hb hHeld.2.2.2⟩ (fun hHeld => ?_)
      clear hK K
      refine norm_ (a' := ?_) ?_ ?_; rotate_left; (·show Act.put _ (some 70) _ = _; simp only [putW]; rfl)
      clear hb
      refine pure_ (i := 33) (N := some 71) (v := ?_) (a' := ?_) #[yT,yT,yT,yT,yT,yT,yT,yT,yT,yT,yT,yT,yT,yT,yT,yT,yT,yT,yT,yT,yT,yT,yT,yT,yT,yT,yT,yT,yT,yT,yT,yT,yT,yT,yF,yF,yF,yF,yF] rfl rfl (by kernel_rfl) (fun _ _ _ h => h) (Or.inl ⟨by rfl, ?_⟩) ?_ ?_; rotate_left; (·intro w'; go_simp; with_reducible rfl); rotate_left; (·simp only [putW]; rfl)
      refine pure_ (i := 34) (N := some 72) (v := ?_) (a' := ?_) #[yT,yT,yT,yT,yT,yT,yT,yT,yT,yT,yT,yT,yT,yT,yT,yT,yT,yT,yT,yT,yT,yT,yT,yT,yT,yT,yT,yT,yT,yT,yT,yT,yT,yT,yT,yF,yF,yF,yF] rfl rfl (by kernel_rfl) (fun _ _ _ h => h) (Or.inl ⟨by rfl, ?_⟩) ?_ ?_; rotate_left; (·intro w'; go_simp; with_reducible rfl); rotate_left; (·simp only [putW]; rfl)
      refine pure_ (i := 35) (N := some 73) (v := ?_) (a' := ?_) #[yT,yT,yT,yT,yT,yT,yT,yT,yT,yT,yT,yT,yT,yT,yT,yT,yT,yT,yT,yT,yT,yT,yT,yT,yT,yT,yT,yT,yT,yT,yT,yT,yT,yT,yT,yT,yF,yF,yF] rfl rfl (by kernel_rfl) (fun _ _ _ h => h) (Or.inl ⟨by rfl, ?_⟩) ?_ ?_; rotate_left; (·intro w'; go_simp; with_reducible rfl); rotate_left; (·simp only [putW]; rfl)
      refine one_ (i := 36) (N := some 74) #[yT,yT,yT,yT,yT,yT,yT,yT,yT,yT,yT,yT,yT,yT,yT,yT,yT,yT,yT,yT,yT,yT,yT,yT,yT,yT,yT,yT,yT,yT,yT,yT,yT,yT,yT,yT,yT,yF,yF] rfl rfl (by kernel_rfl) (by decide) (fun K hK => ?_)
      refine goes_ Try.func13 (by kernel_rfl) rfl #[] (by rfl) rfl rfl byL ?_
      refine (mapmakerlaw40_lives.calls _).mono ?_
      rintro e wN ⟨rfl, hb⟩
      replace HB := Aside0.mk (below_more HB.out (Nat.le_refl _) hb)
      refine ⟨_, rfl, ?_⟩
      refine hK.out _ _ ⟨pw_cell_below hb hHeld.1, pw_cell_below hb hHeld.2.1, pw_cell_below hb hHeld.2.2.1, pw_cell_below hb hHeld.2.2.2⟩ (fun hHeld => ?_)
      clear hK K
      refine norm_ (a' := ?_) ?_ ?_; rotate_left; (·show Act.put _ (some 74) _ = _; simp only [putW]; rfl)
      clear hb
      refine pure_ (i := 37) (N := some 75) (v := ?_) (a' := ?_) #[yT,yT,yT,yT,yT,yT,yT,yT,yT,yT,yT,yT,yT,yT,yT,yT,yT,yT,yT,yT,yT,yT,yT,yT,yT,yT,yT,yT,yT,yT,yT,yT,yT,yT,yT,yT,yT,yT,yF] rfl rfl (by kernel_rfl) (fun _ _ _ h => h) (Or.inl ⟨by rfl, ?_⟩) ?_ ?_; rotate_left; (·intro w'; go_simp; with_reducible rfl); rotate_left; (·simp only [putW]; rfl)
      refine pure_ (i := 38) (N := some 6) (v := ?_) (a' := ?_) #[yT,yT,yT,yT,yT,yT,yT,yT,yT,yT,yT,yT,yT,yT,yT,yT,yT,yT,yT,yT,yT,yT,yT,yT,yT,yT,yT,yT,yT,yT,yT,yT,yT,yT,yT,yT,yT,yT,yT] rfl rfl (by kernel_rfl) (fun _ _ _ h => h) (Or.inl ⟨by rfl, ?_⟩) ?_ ?_; rotate_left; (·intro w'; go_simp; with_reducible rfl); rotate_left; (·simp only [putW]; rfl)
      refine done_ (by kernel_rfl) ?_
      go_wp2
      go_ret
      exact ⟨rfl, HB.out⟩
end Go.Proofs.Ytcfeehaoeaoegaa.Print
