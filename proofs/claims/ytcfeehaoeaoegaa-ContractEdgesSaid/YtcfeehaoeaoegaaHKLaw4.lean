/- ContractEdges: every pair of neighbours of the graph is an edge, every other edge is spanned by a vertex of Lower, and ranks increase along edges. Printed by a program. -/
import Derived.Test.YtcfeehaoeaoegaaHKPlainG
import Derived.Test.YtcfeehaoeaoegaaHKLives
namespace Go.Proofs.Ytcfeehaoeaoegaa.Print
open Go.RowKit Go.Proofs.YtcfeehaoeaoegaaW.PrintWords Go.Proofs.YtcfeehaoeaoegaaW.PrintLast Go.Proofs.YtcfeehaoeaoegaaW.PrintMore
set_option linter.unusedVariables false
set_option linter.unusedSimpArgs false
/-- The ends of an edge. -/
theorem arc_at {w : World} {A : Option Addr} {n : Nat} {xs : List S38} (h : Kd.C k38 w A n xs) {i : Nat} (hi : i < xs.length) : ∃ b o, A = some ⟨b, o, none⟩ ∧ w.cell? ⟨b, o + i * 2, none⟩ = some (.int .i64 (xs.getD i z38).f0) ∧ w.cell? ⟨b, o + i * 2 + 1, none⟩ = some (.int .i64 (xs.getD i z38).f1) := by
  obtain ⟨ad, hA, h2⟩ := h.2.2 (by have := h.1; omega)
  have h3 : ∀ j, j < xs.length → ∀ u q, [Value.int .i64 (xs.getD j z38).f0, .int .i64 (xs.getD j z38).f1][q]? = some u → w.cell? (ad.add (j * 2 + q)) = some u := fun j hj u q hu => by
    obtain ⟨c, hl, hK, hc⟩ := h2 j (xs.getD j z38) (by rw [List.getD_eq_getElem?_getD, List.getElem?_eq_getElem hj]; rfl)
    obtain rfl := k38_open hK
    exact hc q u hu
  have h4 := spot_of_cell (h3 0 (by omega) _ 0 rfl)
  refine ⟨ad.block, ad.off, by rw [hA]; exact congrArg some h4, ?_, ?_⟩
  · have h5 := h3 i hi _ 0 rfl
    rw [h4, Addr.add_lit] at h5
    exact h5
  · have h5 := h3 i hi _ 1 rfl
    rw [h4, Addr.add_lit] at h5
    exact h5
theorem agree_of {w W : World} {b1 : Nat} (h : Below w.heap.size w W) : Agree b1 w.heap.size w W := fun k _ hk => h.block k hk
def mapmakerlaw40_ContractEdges.f (a0_0 : Int) (l0_1 : List S38) (l1 : List Int)  : Option Bool := some true
set_option maxHeartbeats 6400000 in
set_option maxRecDepth 100000 in
theorem mapmakerlaw40_ContractEdges.calls (a0_0 : Int) (A0_1 : Option Addr) (c0_1 : Nat) (l0_1 : List S38) (A1 : Option Addr) (c1 : Nat) (l1 : List Int)  (r : Bool) (w : World) (hr0_1 : Kd.C k38 w A0_1 l0_1.length l0_1) (hc0_1 : l0_1.length ≤ c0_1)
    (hr1 : Kd.C (Kd.int .i64) w A1 l1.length l1) (hc1 : l1.length ≤ c1) (h : mapmakerlaw40_ContractEdges.f a0_0 l0_1 l1  = some r) :
    Calls Try.prog 3 #[.agg #[.int .i64 a0_0, .slice A0_1 l0_1.length c0_1], .slice A1 l1.length c1] w fun e w' => e = .returned (.bool r) ∧ Below w.heap.size w w' := by
  injection h with h
  subst h
  have HG := Aside0.mk hr0_1
  have HL := Aside0.mk hr1
  have HGC := Aside0.mk hc0_1
  have HLC := Aside0.mk hc1
  clear hr0_1 hr1 hc0_1 hc1
  go_enter Try.func3, Try.ntmps3
  go_upto_region 1 with (fail)
  have HBK := Aside0.mk (heap_alloc_new w (Obj.cells #[.int .i64 a0_0, .slice A0_1 l0_1.length c0_1] 24))
  have HBE : Below w.heap.size w (w.alloc (Obj.cells #[.int .i64 a0_0, .slice A0_1 l0_1.length c0_1] 24)) := (Below.refl _ _).alloc (Nat.le_refl _) _
  replace HG := Aside0.mk (Kd.C_below HG.out HBE)
  replace HL := Aside0.mk (Kd.C_below HL.out HBE)
  have HB := Aside0.mk HBE
  generalize w.alloc (Obj.cells #[.int .i64 a0_0, .slice A0_1 l0_1.length c0_1] 24) = w1 at HBK HG HL HB ⊢
  clear HBE
  have hc0 := (blk_cell HBK.out 0).trans rfl
  have hc1 := (blk_cell HBK.out 1).trans rfl
  obtain ⟨fb, hfb, hfw⟩ : ∃ fb, mapmakerlaw40_few.f a0_0 l0_1 l1 = some fb ∧ (fb = true → l0_1.length ≤ 30 ∧ (a0_0 ≤ 10 ∨ a0_0 > 1048576) ∧ l1.length ≤ 20) := by
    unfold mapmakerlaw40_few.f
    by_cases h1 : (l0_1.length : Int) ≤ 30
    · by_cases h2 : a0_0 ≤ 10
      · refine ⟨_, by rw [if_pos h1, if_pos h2], fun h => ?_⟩
        rw [decide_eq_true_eq] at h
        omega
      · by_cases h3 : a0_0 > 1048576
        · refine ⟨_, by rw [if_pos h1, if_neg h2, if_pos h3], fun h => ?_⟩
          rw [decide_eq_true_eq] at h
          omega
        · exact ⟨_, by rw [if_pos h1, if_neg h2, if_neg h3], fun h => by cases h⟩
    · exact ⟨_, by rw [if_neg h1], fun h => by cases h⟩
  have HFB := Aside0.mk hfb
  clear hfb
  go_wp2_with (fail)
  refine (mapmakerlaw40_few.calls a0_0 A0_1 c0_1 l0_1 A1 c1 l1 fb _ HG.out HGC.out HL.out HLC.out HFB.out).mono ?_
  rintro e w2 ⟨rfl, hb2⟩
  replace HBK := Aside0.mk (blk_below HBK.out hb2)
  replace HG := Aside0.mk (Kd.C_below HG.out hb2)
  replace HL := Aside0.mk (Kd.C_below HL.out hb2)
  replace HB := Aside0.mk (below_more HB.out (Nat.le_refl _) hb2)
  clear hb2 hc0 hc1 HFB
  cases fb with
  | false =>
    clear hfw
    go_wp2_with (fail)
    refine (mapmakerlaw40_lives.calls _).mono ?_
    rintro e w3 ⟨rfl, hb3⟩
    replace HB := Aside0.mk (below_more HB.out (Nat.le_refl _) hb3)
    clear hb3
    go_wp2
    go_ret
    exact ⟨rfl, HB.out⟩
  | true =>
  obtain ⟨hf1, hf2, hf3⟩ := hfw rfl
  have hN3 : a0_0 ≤ 1000 ∨ a0_0 > 1048576 := by omega
  have hA3 : l0_1.length ≤ 1000000 := by omega
  have hL3 : l1.length ≤ 1000000 := by omega
  clear hfw
  have hc0 := (blk_cell HBK.out 0).trans rfl
  have hc1 := (blk_cell HBK.out 1).trans rfl
  · go_wp2_with (fail)
    refine (contract_New.calls HG.out HGC.out HL.out HLC.out hN3 hA3 hL3).mono ?_
    rintro e w4 ⟨hb4, (⟨hne, rfl⟩ | ⟨hne, p, rfl, hH⟩)⟩
    · replace HBK := Aside0.mk (blk_below HBK.out hb4)
      replace HG := Aside0.mk (Kd.C_below HG.out hb4)
      replace HL := Aside0.mk (Kd.C_below HL.out hb4)
      replace HB := Aside0.mk (below_more HB.out (Nat.le_refl _) hb4)
      clear hb4 hc0 hc1
      have HNE := Aside0.mk hne
      clear hne
      generalize newErr a0_0 l0_1 l1 = er at HNE ⊢
      have hne : ¬ er = 0 := HNE.out
      go_wp2_with (fail)
      refine (mapmakerlaw40_lives.calls _).mono ?_
      rintro e w6 ⟨rfl, hb6⟩
      replace HB := Aside0.mk (below_more HB.out (Nat.le_refl _) hb6)
      clear hb6
      go_wp2
      go_ret
      exact ⟨rfl, HB.out⟩
    · replace HBK := Aside0.mk (blk_below HBK.out hb4)
      replace HG := Aside0.mk (Kd.C_below HG.out hb4)
      replace HL := Aside0.mk (Kd.C_below HL.out hb4)
      replace HB := Aside0.mk (below_more HB.out (Nat.le_refl _) hb4)
      clear hb4 hc0 hc1
      have hchk : chk a0_0 l0_1 = 0 := by
        unfold newErr at hne
        split at hne
        · contradiction
        · rename_i hh; exact Classical.not_not.1 hh
      have hord : ordGo a0_0 l1.length [] l1 = 0 := by
        unfold newErr at hne
        rw [if_neg (fun h => h hchk)] at hne
        exact hne
      obtain ⟨hN0, hN1, _⟩ := chk_ok hchk
      obtain ⟨n, rfl⟩ := Int.eq_ofNat_of_zero_le hN0
      have hn : n ≤ 10 := by omega
      have hk : Hk n l0_1 l1 := ⟨hchk, by have := isOrd_of hN0 hord; rw [Int.toNat_natCast] at this; exact this⟩
      have HK := Aside0.mk hk
      have HH := Aside0.mk (show HierOf w4 p n l0_1 l1 by rw [Int.toNat_natCast] at hH; exact hH)
      clear hchk hord hN0 hN1 hk hH hne
      have hc0 := (blk_cell HBK.out 0).trans rfl
      have hc1 := (blk_cell HBK.out 1).trans rfl
      obtain ⟨kn, hkn⟩ := mapmakerref37_Neighbours.ev (n : Int) l0_1 (by omega)
      have HKN : Aside0 (mapmakerref37_Neighbours.f kn (n : Int) l0_1 = some (nbRows n l0_1)) := ⟨(hkn kn (Nat.le_refl _)).trans (by
        unfold neighS
        rw [if_pos HK.out.chk, Int.toNat_natCast])⟩
      clear hkn
      have hnl : (nbRows n l0_1).length = n := nbRows_length n l0_1
      obtain ⟨near, HNE⟩ : ∃ near, Aside0 (nbRows n l0_1 = near) := ⟨_, ⟨rfl⟩⟩
      rw [HNE.out] at HKN hnl
      go_wp2_with (fail)
      refine (mapmakerref37_Neighbours.calls kn (n : Int) A0_1 c0_1 l0_1 near _ HG.out HGC.out HKN.out).mono ?_
      rintro e wN ⟨v0, rfl, hns, hbN⟩
      obtain ⟨An, cn, rfl⟩ := Kd.S_slice hns
      have HNS := Aside0.mk hns
      replace HBK := Aside0.mk (blk_below HBK.out hbN)
      replace HH := Aside0.mk (HH.out.below hbN)
      replace HB := Aside0.mk (below_more HB.out (Nat.le_refl _) hbN)
      clear hns hbN HG HL HGC HLC HKN hc0 hc1
      generalize w4.heap.size = b1 at HNS
      go_wp2_with (fail)
      refine (Hier_Edges.calls HH.out (by have := HK.out.short (by omega); omega)).mono ?_
      rintro e wE ⟨v, rfl, hr, hb⟩
      obtain ⟨Ae, ce, rfl⟩ := Kd.R_slice hr
      have HE := Aside0.mk (Kd.R_reads' hr).2.2
      have HNE2 := Aside0.mk hb
      replace HBK := Aside0.mk (blk_below HBK.out hb)
      replace HH := Aside0.mk (HH.out.below hb)
      replace HB := Aside0.mk (below_more HB.out (Nat.le_refl _) hb)
      clear hb hr
      have HEL := Aside0.mk (HK.out.short (by omega))
      obtain ⟨ES, HES⟩ : ∃ ES, Aside0 ((hierS n l0_1 l1).edges = ES) := ⟨_, ⟨rfl⟩⟩
      rw [HES.out] at HE HEL
      rw [HES.out]
      have hgd := nb_good HK.out.chk
      rw [HNE.out] at hgd
      have HGD := Aside0.mk hgd
      clear hgd
      have HNLN := Aside0.mk hnl
      clear hnl
      go_wp2_with (fail)
      go_loopw [9] (fun i wr => ∃ v : Nat, i = .int .i64 (v : Int) ∧ v ≤ n ∧ Aside0 (Below wE.heap.size wE wr)) (fun i _ => n - (intOf i).toNat)
      case atStart => exact ⟨0, rfl, Nat.zero_le _, ⟨Below.refl _ _⟩⟩
      case round =>
        obtain ⟨v, rfl, hv, HB2⟩ := hrel
        by_cases hvn : v < n
        · obtain ⟨ad, Ai, xc, hAd, hxc, hX⟩ := near_row HNS.out (v := v) (by rw [HNLN.out]; exact hvn)
          subst hAd
          have HX := Aside0.mk hX
          have HFD : Aside0 (∀ u ∈ near.getD v [], (findS n (ranksTo l1 l1.length) (hierS n l0_1 l1) (v : Int) u).2 = true) := ⟨fun u hu => HK.out.nb_find hvn (by rw [HNE.out]; exact hu)⟩
          have hrl := (HGD.out v).2
          clear hX
          generalize near.getD v [] = row at HX HFD hxc hrl
          go_wp2_with (fail)
          go_loopw [10] (fun i wr => ∃ j : Nat, i = .int .i64 (j : Int) ∧ j ≤ row.length ∧ Aside0 (Below wE.heap.size wE wr)) (fun i _ => row.length - (intOf i).toNat)
          case atStart => exact ⟨0, rfl, Nat.zero_le _, HB2⟩
          case round =>
            clear HB2
            obtain ⟨j, rfl, hj, HB2⟩ := hrel
            have hX := HX.out wr (agree_of (below_more HNE2.out (Nat.le_refl _) HB2.out))
            have hcr := hX.1
            by_cases hjl : j < row.length
            · rcases cells_of_C hX.2 with ⟨h0, _⟩ | ⟨_, br, orr, hAi, hce⟩
              · omega
              subst hAi
              have hcj := hce j hjl
              have hfd := HFD.out _ (mem_getD hjl)
              generalize row.getD j 0 = u at hcj hfd
              obtain ⟨ff, HFF⟩ : ∃ ff, Aside0 (findS n (ranksTo l1 l1.length) (hierS n l0_1 l1) (v : Int) u = (ff, true)) := ⟨_, ⟨Prod.ext rfl hfd⟩⟩
              clear hce hfd hX
              go_wp2_with (fail)
              refine (Hier_Find.calls (HH.out.below HB2.out) HK.out.lenR (v : Int) u).mono ?_
              rintro e w7 ⟨he, hb7⟩
              rw [HFF.out] at he
              subst he
              have HB7 := Aside0.mk (below_more HB2.out (Nat.le_refl _) hb7)
              clear hb7 hcj hcr HB2
              go_wp2
              go_roundw
              case rel => exact ⟨j + 1, by go_num, by omega, HB7⟩
              case measure => simp [intOf]; omega
            · have hje : j = row.length := by omega
              clear hX
              go_wp2
              go_roundw
              case rel => exact ⟨v + 1, by go_num, by omega, HB2⟩
              case measure => simp [intOf]; omega
        · have HB1 := Aside0.mk HB2.out
          obtain ⟨wo, hwo⟩ : ∃ q, q = wr := ⟨_, rfl⟩
          subst hwo
          have hell := HEL.out
          go_wp2_with (fail)
          go_loopw [13] (fun q wr => ∃ i : Nat, q = .int .i64 (i : Int) ∧ i ≤ ES.length ∧ Aside0 (Below wE.heap.size wE wr)) (fun q _ => ES.length - (intOf q).toNat)
          case atStart => exact ⟨0, rfl, Nat.zero_le _, HB1⟩
          case round =>
            clear HB1 HB2
            obtain ⟨i, rfl, hi, HB2⟩ := hrel
            by_cases hie : i < ES.length
            · obtain ⟨x, y, hxy, hyn, h0, h1, hRE⟩ := HK.out.edge_at (i := i) (by rw [HES.out]; exact hie)
              have hsp := HK.out.spanned (i := i) (by rw [HES.out]; exact hie) hxy hyn h0 h1 hRE
              rw [HES.out] at h0 h1
              have HCE := Aside0.mk (Kd.C_below HE.out HB2.out)
              obtain ⟨be, oe, hAe, hei0, hei1⟩ := arc_at HCE.out hie
              first | subst hAe | (injection hAe with e1; injection e1 with e1 e2 _; subst e1 e2)
              rw [h0] at hei0
              rw [h1] at hei1
              have hra := HK.out.rank_of (x := x) (by omega)
              have hrb := HK.out.rank_of (x := y) hyn
              obtain ⟨va, hva, hvae⟩ := HK.out.vx (s := x) (by omega)
              obtain ⟨vb, hvb, hvbe⟩ := HK.out.vx (s := y) hyn
              rw [hvae] at hei0 hra hsp
              rw [hvbe] at hei1 hrb hsp
              rw [Int.toNat_natCast, HNE.out] at hsp
              have HRA := Aside0.mk hra
              have HRB := Aside0.mk hrb
              have HSP := Aside0.mk hsp
              have HRE := Aside0.mk hRE
              have HVA := Aside0.mk hvae
              obtain ⟨fa, hfa⟩ : ∃ fa : Int, fa = (va : Int) := ⟨_, rfl⟩
              obtain ⟨fb, hfb⟩ : ∃ fb : Int, fb = (vb : Int) := ⟨_, rfl⟩
              rw [← hfa] at hei0
              rw [← hfb] at hei1
              clear h0 h1 hsp hra hrb hRE
              go_upto_region 21 with (fail)
              refine start_ (n := 12) (S := fun w' => w'.cell? ⟨be, oe + i * 2, none⟩ = some (.int .i64 fa) ∧ w'.cell? ⟨be, oe + i * 2 + 1, none⟩ = some (.int .i64 fb)) (ds := []) #[yF,yF,yF,yF,yF,yF,yF,yF,yF,yF,yF,yF] (by kernel_rfl) rfl rfl ⟨hei0, hei1⟩ (fun hHeld => ?_)
              refine pure_ (i := 0) (N := some 72) (v := ?_) (a' := ?_) #[yT,yF,yF,yF,yF,yF,yF,yF,yF,yF,yF,yF] rfl rfl (by kernel_rfl) (fun _ _ _ h => h) (Or.inl ⟨by rfl, ?_⟩) ?_ ?_; rotate_left; (·intro w'; go_simp; with_reducible rfl); rotate_left; (·simp only [putW]; rfl)
              refine pure_ (i := 1) (N := some 73) (v := ?_) (a' := ?_) #[yT,yT,yF,yF,yF,yF,yF,yF,yF,yF,yF,yF] rfl rfl (by kernel_rfl) (fun _ _ _ h => h) (Or.inl ⟨by rfl, ?_⟩) ?_ ?_; rotate_left; (·intro w'; go_simp; with_reducible rfl); rotate_left; (·simp only [putW]; rfl)
              refine pure_ (i := 2) (N := some 74) (v := ?_) (a' := ?_) #[yT,yT,yT,yF,yF,yF,yF,yF,yF,yF,yF,yF] rfl rfl (by kernel_rfl) (fun _ _ _ h => h) (Or.inl ⟨by rfl, ?_⟩) ?_ ?_; rotate_left; (·intro w'; go_simp; with_reducible rfl); rotate_left; (·simp only [putW]; rfl)
              refine pure_ (i := 3) (N := some 75) (v := ?_) (a' := ?_) #[yT,yT,yT,yT,yF,yF,yF,yF,yF,yF,yF,yF] rfl rfl (by kernel_rfl) (fun _ _ _ h => h) (Or.inl ⟨by rfl, ?_⟩) ?_ ?_; rotate_left; (·intro w'; go_simp; with_reducible rfl); rotate_left; (·simp only [putW]; rfl)
              refine take_ (i := 4) (N := some 76) (v := ?_) (a' := ?_) #[yT,yT,yT,yT,yT,yF,yF,yF,yF,yF,yF,yF] rfl rfl (by kernel_rfl) (fun _ _ _ h => h) (Or.inl ⟨by rfl, ?_⟩) hHeld ?_ ?_; rotate_left; (·rintro w' ⟨s0, s1⟩; go_simp; with_reducible rfl); rotate_left; (·simp only [putW]; rfl)
              refine pure_ (i := 5) (N := some 77) (v := ?_) (a' := ?_) #[yT,yT,yT,yT,yT,yT,yF,yF,yF,yF,yF,yF] rfl rfl (by kernel_rfl) (fun _ _ _ h => h) (Or.inl ⟨by rfl, ?_⟩) ?_ ?_; rotate_left; (·intro w'; go_simp; with_reducible rfl); rotate_left; (·simp only [putW]; rfl)
              refine pure_ (i := 6) (N := some 78) (v := ?_) (a' := ?_) #[yT,yT,yT,yT,yT,yT,yT,yF,yF,yF,yF,yF] rfl rfl (by kernel_rfl) (fun _ _ _ h => h) (Or.inl ⟨by rfl, ?_⟩) ?_ ?_; rotate_left; (·intro w'; go_simp; with_reducible rfl); rotate_left; (·simp only [putW]; rfl)
              refine pure_ (i := 7) (N := some 79) (v := ?_) (a' := ?_) #[yT,yT,yT,yT,yT,yT,yT,yT,yF,yF,yF,yF] rfl rfl (by kernel_rfl) (fun _ _ _ h => h) (Or.inl ⟨by rfl, ?_⟩) ?_ ?_; rotate_left; (·intro w'; go_simp; with_reducible rfl); rotate_left; (·simp only [putW]; rfl)
              refine pure_ (i := 8) (N := some 80) (v := ?_) (a' := ?_) #[yT,yT,yT,yT,yT,yT,yT,yT,yT,yF,yF,yF] rfl rfl (by kernel_rfl) (fun _ _ _ h => h) (Or.inl ⟨by rfl, ?_⟩) ?_ ?_; rotate_left; (·intro w'; go_simp; with_reducible rfl); rotate_left; (·simp only [putW]; rfl)
              refine take_ (i := 9) (N := some 81) (v := ?_) (a' := ?_) #[yT,yT,yT,yT,yT,yT,yT,yT,yT,yT,yF,yF] rfl rfl (by kernel_rfl) (fun _ _ _ h => h) (Or.inl ⟨by rfl, ?_⟩) hHeld ?_ ?_; rotate_left; (·rintro w' ⟨s0, s1⟩; go_simp; with_reducible rfl); rotate_left; (·simp only [putW]; rfl)
              refine pure_ (i := 10) (N := some 14) (v := ?_) (a' := ?_) #[yT,yT,yT,yT,yT,yT,yT,yT,yT,yT,yT,yF] rfl rfl (by kernel_rfl) (fun _ _ _ h => h) (Or.inl ⟨by rfl, ?_⟩) ?_ ?_; rotate_left; (·intro w'; go_simp; with_reducible rfl); rotate_left; (·simp only [putW]; rfl)
              refine pure_ (i := 11) (N := some 15) (v := ?_) (a' := ?_) #[yT,yT,yT,yT,yT,yT,yT,yT,yT,yT,yT,yT] rfl rfl (by kernel_rfl) (fun _ _ _ h => h) (Or.inl ⟨by rfl, ?_⟩) ?_ ?_; rotate_left; (·intro w'; go_simp; with_reducible rfl); rotate_left; (·simp only [putW]; rfl)
              refine done_ (by kernel_rfl) ?_
              clear hHeld
              replace HB2 := Aside0.mk (below_drew HB2.out)
              replace HCE := Aside0.mk (Kd.C_drew HCE.out)
              subst hfa hfb
              clear hei0 hei1
              generalize wr.drew = wd at HB2 HCE ⊢
              have hc0 := (blk_cell (blk_below HBK.out HB2.out) 0).trans rfl
              have hz1 : decide ((va : Int) < 0) = false := by simp
              have hz2 : decide ((va : Int) ≥ (n : Int)) = false := by simp; omega
              have hz3 : decide ((vb : Int) < 0) = false := by simp
              have hz4 : decide ((vb : Int) ≥ (n : Int)) = false := by simp; omega
              have hz5 : decide (n ≤ va) = false := by simp; omega
              have hz6 : decide (n ≤ vb) = false := by simp; omega
              go_wp2_with (fail)
              refine (Hier_Rank.calls (HH.out.below HB2.out) HK.out.lenR (va : Int)).mono ?_
              rintro e w7 ⟨rfl, rfl⟩
              rw [HRA.out]
              go_wp2_with (fail)
              refine (Hier_Rank.calls (HH.out.below HB2.out) HK.out.lenR (vb : Int)).mono ?_
              rintro e w7 ⟨rfl, rfl⟩
              rw [HRB.out]
              have hz7 : decide ((x : Int) ≥ (y : Int)) = false := by simp; omega
              have hz8 : decide (y ≤ x) = false := by simp; omega
              clear hc0 hz1 hz2 hz3 hz4 hz5 hz6
              obtain ⟨ad, Ai, xc, hAd, hxc, hX⟩ := near_row HNS.out (v := va) (by rw [HNLN.out]; exact hva)
              subst hAd
              have HX := Aside0.mk hX
              have hrl := (HGD.out va).2
              clear hX
              generalize near.getD va [] = row at HX hxc hrl HSP
              by_cases hi0 : i = 0
              · have hi1 : decide ((i : Int) > 0) = false := by simp; omega
                have hi2 : decide (0 < i) = false := by simp; omega
                clear hi0
                have hX := HX.out _ (agree_of (below_more HNE2.out (Nat.le_refl _) HB2.out))
                have hcr := hX.1
                have hXC := Aside0.mk hX.2
                obtain ⟨kh, hkh⟩ := mapmakerref05_Has.ev row (vb : Int) (by omega)
                clear hX
                by_cases hbm : (vb : Int) ∈ row
                · have HKH : Aside0 (mapmakerref05_Has.f kh row (vb : Int) = some true) := ⟨(hkh kh (Nat.le_refl _)).trans (by rw [decide_eq_true hbm])⟩
                  clear hkh
                  go_wp2_with (fail)
                  refine (mapmakerref05_Has.calls kh Ai xc row (vb : Int) true _ hXC.out hxc HKH.out).mono ?_
                  rintro e w8 ⟨rfl, hd8⟩
                  have HB8 := Aside0.mk (below_more HB2.out (Nat.le_refl _) hd8.below)
                  clear hd8 hcr hXC
                  go_wp2
                  go_roundw
                  case rel => exact ⟨i + 1, by go_num, by omega, HB8⟩
                  case measure => simp [intOf]; omega
                · have HKH : Aside0 (mapmakerref05_Has.f kh row (vb : Int) = some false) := ⟨(hkh kh (Nat.le_refl _)).trans (by rw [decide_eq_false hbm])⟩
                  have hlo := HSP.out hbm
                  clear hkh
                  go_wp2_with (fail)
                  refine (mapmakerref05_Has.calls kh Ai xc row (vb : Int) false _ hXC.out hxc HKH.out).mono ?_
                  rintro e w8 ⟨rfl, hd8⟩
                  have HB8 := Aside0.mk (below_more HB2.out (Nat.le_refl _) hd8.below)
                  clear hd8 hcr hXC
                  go_wp2_with (fail)
                  refine (Hier_Lower.calls (HH.out.below HB8.out) HK.out.ok HK.out.ends (HK.out.capd (by omega)) (((i : Nat)) : Int)).mono ?_
                  rintro e w9 ⟨v9, rfl, hr9, hb9⟩
                  obtain ⟨A9, c9, rfl⟩ := Kd.R_slice hr9
                  have HB9 := Aside0.mk (below_more HB8.out (Nat.le_refl _) hb9)
                  clear hr9 hb9
                  generalize lowerS (hierS n l0_1 l1) (((i : Nat)) : Int) = lo at hlo ⊢
                  have hl0 : ¬ lo.length = 0 := fun e => hlo (List.eq_nil_of_length_eq_zero e)
                  have hl1 : ((lo.length : Int) == 0) = false := beq_eq_false_iff_ne.2 (by omega)
                  go_wp2
                  go_roundw
                  case rel => exact ⟨i + 1, by go_num, by omega, HB9⟩
                  case measure => simp [intOf]; omega
              · obtain ⟨k, hik⟩ : ∃ k, i = k + 1 := ⟨i - 1, by omega⟩
                have HIK := Aside0.mk hik
                have hi3 : (i : Int) - 1 = (k : Int) := by omega
                have hi4 : IntKind.i64.wrap ((i : Int) - 1) = (k : Int) := by rw [hi3, i64_w]; unfold wrap64; omega
                have hi1 : decide ((i : Int) > 0) = true := by simp; omega
                have hi2 : decide (0 < i) = true := by simp; omega
                obtain ⟨x2, y2, hxy2, hyn2, h0, h1, hRE2⟩ := HK.out.edge_at (i := k) (by rw [HES.out]; omega)
                have hst := rkE_step hRE2 (by rw [← hik]; exact HRE.out)
                clear hik hi0
                rw [HES.out] at h0 h1
                obtain ⟨bq, oq, hAe, hek0, hek1⟩ := arc_at HCE.out (i := k) (by have := HIK.out; omega)
                injection hAe with e1
                injection e1 with e1 e2 _
                subst e1 e2
                rw [h0] at hek0
                rw [h1] at hek1
                have hra := HK.out.rank_of (x := x2) (by omega)
                have hrb := HK.out.rank_of (x := y2) hyn2
                have hinj : x2 = x → l1.getD x2 0 = (va : Int) := fun e => by rw [e]; exact HVA.out
                have hinj2 : l1.getD x2 0 = (va : Int) → x2 = x := fun e => ord_inj HK.out.ord (by omega) (by omega) (e.trans HVA.out.symm)
                generalize l1.getD x2 0 = va2 at hek0 hra hinj hinj2
                generalize l1.getD y2 0 = vb2 at hek1 hrb
                have HRA2 := Aside0.mk hra
                have HRB2 := Aside0.mk hrb
                clear h0 h1 hra hrb hRE2
                have hz9 : decide ((x2 : Int) > (x : Int)) = false := by simp; omega
                have hz10 : decide (x < x2) = false := by simp; omega
                go_wp2_with (fail)
                refine (Hier_Rank.calls (HH.out.below HB2.out) HK.out.lenR va2).mono ?_
                rintro e w7 ⟨rfl, rfl⟩
                rw [HRA2.out]
                go_wp2_with (fail)
                refine (Hier_Rank.calls (HH.out.below HB2.out) HK.out.lenR (va : Int)).mono ?_
                rintro e w7 ⟨rfl, rfl⟩
                rw [HRA.out]
                by_cases hxx : x2 = x
                · have hva2 : va2 = (va : Int) := hinj hxx
                  subst hva2
                  have hyy : y2 < y := by omega
                  have hz11 : decide ((y2 : Int) ≥ (y : Int)) = false := by simp; omega
                  have hz12 : decide (y ≤ y2) = false := by simp; omega
                  go_wp2_with (fail)
                  refine (Hier_Rank.calls (HH.out.below HB2.out) HK.out.lenR vb2).mono ?_
                  rintro e w7 ⟨rfl, rfl⟩
                  rw [HRB2.out]
                  go_wp2_with (fail)
                  refine (Hier_Rank.calls (HH.out.below HB2.out) HK.out.lenR (vb : Int)).mono ?_
                  rintro e w7 ⟨rfl, rfl⟩
                  rw [HRB.out]
                  clear hek0 hek1
                  have hX := HX.out _ (agree_of (below_more HNE2.out (Nat.le_refl _) HB2.out))
                  have hcr := hX.1
                  have hXC := Aside0.mk hX.2
                  obtain ⟨kh, hkh⟩ := mapmakerref05_Has.ev row (vb : Int) (by omega)
                  clear hX
                  by_cases hbm : (vb : Int) ∈ row
                  · have HKH : Aside0 (mapmakerref05_Has.f kh row (vb : Int) = some true) := ⟨(hkh kh (Nat.le_refl _)).trans (by rw [decide_eq_true hbm])⟩
                    clear hkh
                    go_wp2_with (fail)
                    refine (mapmakerref05_Has.calls kh Ai xc row (vb : Int) true _ hXC.out hxc HKH.out).mono ?_
                    rintro e w8 ⟨rfl, hd8⟩
                    have HB8 := Aside0.mk (below_more HB2.out (Nat.le_refl _) hd8.below)
                    clear hd8 hcr hXC
                    go_wp2
                    go_roundw
                    case rel => exact ⟨i + 1, by go_num, by omega, HB8⟩
                    case measure => simp [intOf]; omega
                  · have HKH : Aside0 (mapmakerref05_Has.f kh row (vb : Int) = some false) := ⟨(hkh kh (Nat.le_refl _)).trans (by rw [decide_eq_false hbm])⟩
                    have hlo := HSP.out hbm
                    clear hkh
                    go_wp2_with (fail)
                    refine (mapmakerref05_Has.calls kh Ai xc row (vb : Int) false _ hXC.out hxc HKH.out).mono ?_
                    rintro e w8 ⟨rfl, hd8⟩
                    have HB8 := Aside0.mk (below_more HB2.out (Nat.le_refl _) hd8.below)
                    clear hd8 hcr hXC
                    go_wp2_with (fail)
                    refine (Hier_Lower.calls (HH.out.below HB8.out) HK.out.ok HK.out.ends (HK.out.capd (by omega)) (((i : Nat)) : Int)).mono ?_
                    rintro e w9 ⟨v9, rfl, hr9, hb9⟩
                    obtain ⟨A9, c9, rfl⟩ := Kd.R_slice hr9
                    have HB9 := Aside0.mk (below_more HB8.out (Nat.le_refl _) hb9)
                    clear hr9 hb9
                    generalize lowerS (hierS n l0_1 l1) (((i : Nat)) : Int) = lo at hlo ⊢
                    have hl0 : ¬ lo.length = 0 := fun e => hlo (List.eq_nil_of_length_eq_zero e)
                    have hl1 : ((lo.length : Int) == 0) = false := beq_eq_false_iff_ne.2 (by omega)
                    go_wp2
                    go_roundw
                    case rel => exact ⟨i + 1, by go_num, by omega, HB9⟩
                    case measure => simp [intOf]; omega
                · have hva2 : ¬ va2 = (va : Int) := fun e => hxx (hinj2 e)
                  have hva3 : (va2 == (va : Int)) = false := beq_eq_false_iff_ne.2 hva2
                  clear hek1
                  have hX := HX.out _ (agree_of (below_more HNE2.out (Nat.le_refl _) HB2.out))
                  have hcr := hX.1
                  have hXC := Aside0.mk hX.2
                  obtain ⟨kh, hkh⟩ := mapmakerref05_Has.ev row (vb : Int) (by omega)
                  clear hX
                  by_cases hbm : (vb : Int) ∈ row
                  · have HKH : Aside0 (mapmakerref05_Has.f kh row (vb : Int) = some true) := ⟨(hkh kh (Nat.le_refl _)).trans (by rw [decide_eq_true hbm])⟩
                    clear hkh
                    go_wp2_with (fail)
                    refine (mapmakerref05_Has.calls kh Ai xc row (vb : Int) true _ hXC.out hxc HKH.out).mono ?_
                    rintro e w8 ⟨rfl, hd8⟩
                    have HB8 := Aside0.mk (below_more HB2.out (Nat.le_refl _) hd8.below)
                    clear hd8 hcr hXC
                    go_wp2
                    go_roundw
                    case rel => exact ⟨i + 1, by go_num, by omega, HB8⟩
                    case measure => simp [intOf]; omega
                  · have HKH : Aside0 (mapmakerref05_Has.f kh row (vb : Int) = some false) := ⟨(hkh kh (Nat.le_refl _)).trans (by rw [decide_eq_false hbm])⟩
                    have hlo := HSP.out hbm
                    clear hkh
                    go_wp2_with (fail)
                    refine (mapmakerref05_Has.calls kh Ai xc row (vb : Int) false _ hXC.out hxc HKH.out).mono ?_
                    rintro e w8 ⟨rfl, hd8⟩
                    have HB8 := Aside0.mk (below_more HB2.out (Nat.le_refl _) hd8.below)
                    clear hd8 hcr hXC
                    go_wp2_with (fail)
                    refine (Hier_Lower.calls (HH.out.below HB8.out) HK.out.ok HK.out.ends (HK.out.capd (by omega)) (((i : Nat)) : Int)).mono ?_
                    rintro e w9 ⟨v9, rfl, hr9, hb9⟩
                    obtain ⟨A9, c9, rfl⟩ := Kd.R_slice hr9
                    have HB9 := Aside0.mk (below_more HB8.out (Nat.le_refl _) hb9)
                    clear hr9 hb9
                    generalize lowerS (hierS n l0_1 l1) (((i : Nat)) : Int) = lo at hlo ⊢
                    have hl0 : ¬ lo.length = 0 := fun e => hlo (List.eq_nil_of_length_eq_zero e)
                    have hl1 : ((lo.length : Int) == 0) = false := beq_eq_false_iff_ne.2 (by omega)
                    go_wp2
                    go_roundw
                    case rel => exact ⟨i + 1, by go_num, by omega, HB9⟩
                    case measure => simp [intOf]; omega
            · have hie2 : i = ES.length := by omega
              go_wp2_with (fail)
              refine (mapmakerlaw40_lives.calls _).mono ?_
              rintro e w7 ⟨rfl, hb7⟩
              have HBF := Aside0.mk (below_more HB.out (Nat.le_refl _) (below_more HB2.out (Nat.le_refl _) hb7))
              clear hb7
              go_wp2
              go_ret
              exact ⟨rfl, HBF.out⟩
end Go.Proofs.Ytcfeehaoeaoegaa.Print
