/- Several texts of this claim in one: HMSame, HMLaw2. -/
import Derived.Test.YtcfeehaoeaoegaaHMRNew
namespace Go.Proofs.Ytcfeehaoeaoegaa.Print
open Go.RowKit Go.Proofs.YtcfeehaoeaoegaaW.PrintWords Go.Proofs.YtcfeehaoeaoegaaW.PrintLast Go.Proofs.YtcfeehaoeaoegaaW.PrintMore
set_option linter.unusedVariables false
set_option linter.unusedSimpArgs false

theorem sideS_out {l : List Int} {e : Int} (h : ¬ (0 ≤ e ∧ e < (l.length : Int))) : sideS l e = mInf := if_neg h
theorem sideS_at {l : List Int} {j : Nat} (h : j < l.length) : sideS l (j : Int) = l.getD j 0 := by
  unfold sideS
  rw [if_pos (by omega), Int.toNat_natCast]
set_option maxHeartbeats 6400000 in
set_option maxRecDepth 100000 in
theorem law41_same.calls {w : World} {q p n : Nat} {arcs : List S38} {L ws : List Int} {gA : Option Addr} {gc : Nat} {lA : Option Addr} {lc : Nat} {wA : Option Addr} {wc : Nat} (hk : Hk n arcs L) (hn : n ≤ 1000) (hal : arcs.length ≤ 1000000) (hwl : ws.length = arcs.length) (hLl : L.length ≤ 1000000)
    (hM : MetH w q p n arcs L ws) (hg : Kd.C k38 w gA arcs.length arcs) (hgc : arcs.length ≤ gc) (hl : Kd.C (Kd.int .i64) w lA L.length L) (hlc : L.length ≤ lc) (hw : Kd.C (Kd.int .i64) w wA ws.length ws) (hwc : ws.length ≤ wc) :
    Calls Try.prog 42 #[.pointer (some ⟨q, 0, none⟩), .agg #[.bool false, .int .i64 (n : Int), .slice gA arcs.length gc, .slice lA L.length lc, .slice wA ws.length wc]] w fun e w' => e = .returned (.bool true) ∧ Below w.heap.size w w' := by
  obtain ⟨ks, hks⟩ := hk.sides_ev false ws hn hal hwl hLl
  obtain ⟨ki, hki⟩ := ints_ev ws (by omega)
  have hsl := sdS_len n arcs L ws
  have hsh := hk.short hn
  obtain ⟨UD, HUD⟩ : ∃ x, Aside0 (sdS n arcs L ws = x) := ⟨_, ⟨rfl⟩⟩
  obtain ⟨U, D⟩ := UD
  rw [HUD.out] at hsl
  dsimp only at hsl
  have hks2 := hks ks (Nat.le_refl _)
  rw [HUD.out] at hks2
  have HKS := Aside0.mk hks2
  have HKI := Aside0.mk (hki ki (Nat.le_refl _))
  have hul : U.length ≤ 1000000 := by omega
  have hdl : D.length = U.length := by omega
  have HK := Aside0.mk hk
  have HM := Aside0.mk hM
  have HG := Aside0.mk hg
  have HGC := Aside0.mk hgc
  have HL := Aside0.mk hl
  have HLC := Aside0.mk hlc
  have HW := Aside0.mk hw
  have HWC := Aside0.mk hwc
  have hwb : ws.length ≤ 1000000 := by omega
  have HDL := Aside0.mk hdl
  clear hks hki hks2 hsl hsh hk hM hg hgc hl hlc hw hwc hwl hdl
  go_enter Try.func42, Try.ntmps42
  go_wp2_with (fail)
  have hb1 : Below w.heap.size w (w.alloc (Obj.cells #[.bool false, .int .i64 (n : Int), .slice gA arcs.length gc, .slice lA L.length lc, .slice wA ws.length wc] 67)) := (Below.refl _ _).alloc (Nat.le_refl _) _
  have HBK := Aside0.mk (heap_alloc_new w (Obj.cells #[.bool false, .int .i64 (n : Int), .slice gA arcs.length gc, .slice lA L.length lc, .slice wA ws.length wc] 67))
  have HB := Aside0.mk hb1
  replace HG := Aside0.mk (Kd.C_below HG.out hb1)
  replace HL := Aside0.mk (Kd.C_below HL.out hb1)
  replace HW := Aside0.mk (Kd.C_below HW.out hb1)
  replace HM := Aside0.mk (HM.out.below hb1)
  clear hb1
  generalize w.alloc (Obj.cells #[.bool false, .int .i64 (n : Int), .slice gA arcs.length gc, .slice lA L.length lc, .slice wA ws.length wc] 67) = w1 at HBK HB HG HL HW HM ⊢
  refine (mapmakerref41_Sides.calls ks false (n : Int) gA gc arcs lA lc L wA wc ws U D w1 HG.out HGC.out HL.out HLC.out HW.out HWC.out HKS.out).mono ?_
  rintro e w2 ⟨v0, v1, rfl, hr0, hr1, hb2⟩
  obtain ⟨uA, uc, rfl, huc, huC⟩ := Kd.R_reads hr0
  obtain ⟨dA, dc, rfl, hdc, hdC⟩ := Kd.R_reads hr1
  have HU := Aside0.mk huC
  have HD := Aside0.mk hdC
  replace HW := Aside0.mk (Kd.C_below HW.out hb2)
  replace HBK := Aside0.mk (blk_below HBK.out hb2)
  replace HB := Aside0.mk (below_then HB.out HB.out.size hb2)
  replace HM := Aside0.mk (HM.out.below hb2)
  clear hr0 hr1 hb2 huc hdc huC hdC HG HL
  have hc4 := (blk_cell HBK.out 4).trans rfl
  go_upto_region 2 with (fail)
  refine s_ (fun w' => w'.cell? ⟨w.heap.size, 4, none⟩ = some (.slice wA ws.length wc)) [] hc4 (fun hHeld => ?_)
  replace HM := Aside0.mk (HM.out.below (below_drew (Below.refl _ _)))
  replace HW := Aside0.mk (Kd.C_below HW.out (below_drew (Below.refl _ _)))
  replace HU := Aside0.mk (Kd.C_below HU.out (below_drew (Below.refl _ _)))
  replace HD := Aside0.mk (Kd.C_below HD.out (below_drew (Below.refl _ _)))
  replace HB := Aside0.mk (below_then HB.out HB.out.size (below_drew (Below.refl _ _)))
  generalize w2.drew = wd at HM HW HU HD HB hHeld ⊢
  refine p_ 0 13 ?_
  refine p_ 2 15 ?_
  refine t1_ 3 16 hHeld ?_
  refine o_ 1 14 (fun K hK => ?_)
  refine goes_ Try.func48 (by kernel_rfl) rfl #[.pointer (some ⟨q, 0, none⟩)] (by rfl) rfl rfl byL ?_
  refine (Metric_Weights.calls (HM.out.reads HK.out hn) (by omega)).mono ?_
  rintro e w3 ⟨v, rfl, hr3, hb3⟩
  obtain ⟨vA, vc, rfl, hvc, hvC⟩ := Kd.R_reads hr3
  have HV := Aside0.mk hvC
  have HVC := Aside0.mk hvc
  refine ⟨_, rfl, ?_⟩
  refine hK.out _ _ (pw_cell_below hb3 hHeld) (fun hHeld => ?_)
  replace HM := Aside0.mk (HM.out.below hb3)
  replace HW := Aside0.mk (Kd.C_below HW.out hb3)
  replace HU := Aside0.mk (Kd.C_below HU.out hb3)
  replace HD := Aside0.mk (Kd.C_below HD.out hb3)
  replace HB := Aside0.mk (below_then HB.out HB.out.size hb3)
  clear hK K hr3 hb3 hvc hvC
  refine n_ 14 ?_
  refine o_ 4 17 (fun K hK => ?_)
  refine goes_ Try.func66 (by kernel_rfl) rfl #[.slice vA ws.length vc, .slice wA ws.length wc] (by rfl) rfl rfl byL ?_
  refine (mapmakerref38_Ints.calls ki vA vc ws wA wc ws true w3 HV.out HVC.out HW.out HWC.out HKI.out).mono ?_
  rintro e w4 ⟨rfl, hd4⟩
  have hb4 := hd4.below
  refine ⟨_, rfl, ?_⟩
  refine hK.out _ _ (pw_cell_below hb4 hHeld) (fun hHeld => ?_)
  replace HM := Aside0.mk (HM.out.below hb4)
  replace HU := Aside0.mk (Kd.C_below HU.out hb4)
  replace HD := Aside0.mk (Kd.C_below HD.out hb4)
  replace HB := Aside0.mk (below_then HB.out HB.out.size hb4)
  clear hK K hd4 hb4 HV HVC HW
  refine n_ 17 ?_
  refine p_ 5 18 ?_
  refine p_ 6 19 ?_
  refine p_ 7 20 ?_
  refine o_ 8 21 (fun K hK => ?_)
  refine goes_ Try.func46 (by kernel_rfl) rfl #[.pointer (some ⟨q, 0, none⟩), .int .i64 (-1)] (by rfl) rfl rfl byL ?_
  refine (Metric_Up.calls (HM.out.reads HK.out hn) (-1)).mono ?_
  rintro e w5 ⟨rfl, rfl⟩
  refine ⟨_, rfl, ?_⟩
  refine hK.out _ _ hHeld (fun hHeld => ?_)
  rw [sideS_out (by omega)]
  unfold mInf
  clear hK K
  refine n_ 21 ?_
  refine p_ 9 22 ?_
  refine p_ 10 23 ?_
  refine p_ 11 24 ?_
  refine p_ 12 25 ?_
  refine p_ 13 26 ?_
  refine p_ 14 27 ?_
  refine o_ 15 28 (fun K hK => ?_)
  refine goes_ Try.func47 (by kernel_rfl) rfl #[.pointer (some ⟨q, 0, none⟩), .int .i64 (U.length : Int)] (by rfl) rfl rfl byL ?_
  refine (Metric_Down.calls (HM.out.reads HK.out hn) (U.length : Int)).mono ?_
  rintro e w6 ⟨rfl, rfl⟩
  refine ⟨_, rfl, ?_⟩
  refine hK.out _ _ hHeld (fun hHeld => ?_)
  rw [HUD.out, sideS_out (by have := HDL.out; dsimp only; omega)]
  unfold mInf
  clear hK K
  refine n_ 28 ?_
  refine p_ 16 29 ?_
  refine p_ 17 30 ?_
  refine d_ ?_
  clear hHeld hc4
  go_wp2_with (fail)
  go_loopw [7] (fun i wr => ∃ j : Nat, i = .int .i64 (j : Int) ∧ j ≤ U.length ∧ Aside0 (Below w6.heap.size w6 wr)) (fun i _ => U.length - (intOf i).toNat)
  case atStart => exact ⟨0, rfl, Nat.zero_le _, ⟨Below.refl _ _⟩⟩
  case round =>
    obtain ⟨j, rfl, hj, HB2⟩ := hrel
    by_cases hjl : j < U.length
    · have HMr := Aside0.mk (HM.out.below HB2.out)
      rcases cells_of_C (Kd.C_below HU.out HB2.out) with ⟨h0, _⟩ | ⟨_, ub, uo, hA1, hcu⟩
      · omega
      subst hA1
      rcases cells_of_C (Kd.C_below HD.out HB2.out) with ⟨h0, _⟩ | ⟨_, db, dof, hA1, hcd⟩
      · have := HDL.out; omega
      subst hA1
      have hjd : j < D.length := by rw [HDL.out]; exact hjl
      have hu := hcu j hjl
      have hd := hcd j (by rw [HDL.out]; exact hjl)
      clear hcu hcd
      have HSU := Aside0.mk (sideS_at hjl)
      have HSD := Aside0.mk (sideS_at (l := D) (j := j) (by rw [HDL.out]; exact hjl))
      generalize U.getD j 0 = xu at hu HSU
      generalize D.getD j 0 = xd at hd HSD
      go_upto_region 7 with (fail)
      refine s_ (fun w' => w'.cell? ⟨ub, uo + j, none⟩ = some (.int .i64 xu) ∧ w'.cell? ⟨db, dof + j, none⟩ = some (.int .i64 xd)) [] ⟨hu, hd⟩ (fun hHeld => ?_)
      replace HMr := Aside0.mk (HMr.out.below (below_drew (Below.refl _ _)))
      refine p_ 0 37 ?_
      refine p_ 1 38 ?_
      refine p_ 3 40 ?_
      refine p_ 4 41 ?_
      refine p_ 5 42 ?_
      refine t2_ 6 43 hHeld ?_
      refine o_ 2 39 (fun K hK => ?_)
      refine goes_ Try.func46 (by kernel_rfl) rfl #[.pointer (some ⟨q, 0, none⟩), .int .i64 (j : Int)] (by rfl) rfl rfl byL ?_
      refine (Metric_Up.calls (HMr.out.reads HK.out hn) (j : Int)).mono ?_
      rintro e w5 ⟨rfl, rfl⟩
      refine ⟨_, rfl, ?_⟩
      refine hK.out _ _ hHeld (fun hHeld => ?_)
      rw [HUD.out]
      dsimp only
      rw [HSU.out]
      clear hK K
      refine n_ 39 ?_
      refine p_ 7 44 ?_
      refine p_ 8 45 ?_
      refine p_ 9 46 ?_
      refine p_ 10 47 ?_
      refine p_ 12 49 ?_
      refine p_ 13 50 ?_
      refine p_ 14 51 ?_
      refine t2_ 15 52 hHeld ?_
      refine o_ 11 48 (fun K hK => ?_)
      refine goes_ Try.func47 (by kernel_rfl) rfl #[.pointer (some ⟨q, 0, none⟩), .int .i64 (j : Int)] (by rfl) rfl rfl byL ?_
      refine (Metric_Down.calls (HMr.out.reads HK.out hn) (j : Int)).mono ?_
      rintro e w5 ⟨rfl, rfl⟩
      refine ⟨_, rfl, ?_⟩
      refine hK.out _ _ hHeld (fun hHeld => ?_)
      rw [HUD.out]
      dsimp only
      rw [HSD.out]
      clear hK K
      refine n_ 48 ?_
      refine p_ 16 53 ?_
      refine p_ 17 54 ?_
      refine d_ ?_
      clear hHeld
      go_wp2_with (fail)
      go_roundw
      case rel => exact ⟨j + 1, by go_num, by omega, ⟨below_then HB2.out HB2.out.size (below_drew (Below.refl _ _))⟩⟩
      case measure => simp [intOf]; omega
    · go_wp2
      go_ret
      exact ⟨rfl, below_then HB.out HB.out.size HB2.out⟩
end Go.Proofs.Ytcfeehaoeaoegaa.Print
namespace Go.Proofs.Ytcfeehaoeaoegaa.Print
open Go.RowKit Go.Proofs.YtcfeehaoeaoegaaW.PrintWords Go.Proofs.YtcfeehaoeaoegaaW.PrintLast Go.Proofs.YtcfeehaoeaoegaaW.PrintMore
set_option linter.unusedVariables false
set_option linter.unusedSimpArgs false

def mapmakerlaw41_CustomBuilds.f (a0_0 : Int) (l0_1 : List S38) (l1 l2 : List Int) : Option Bool := some true
set_option maxHeartbeats 6400000 in
set_option maxRecDepth 100000 in
theorem mapmakerlaw41_CustomBuilds.calls (a0_0 : Int) (A0_1 : Option Addr) (c0_1 : Nat) (l0_1 : List S38) (A1 : Option Addr) (c1 : Nat) (l1 : List Int) (A2 : Option Addr) (c2 : Nat) (l2 : List Int) (r : Bool) (w : World) (hr0_1 : Kd.C k38 w A0_1 l0_1.length l0_1) (hc0_1 : l0_1.length ≤ c0_1)
    (hr1 : Kd.C (Kd.int .i64) w A1 l1.length l1) (hc1 : l1.length ≤ c1) (hr2 : Kd.C (Kd.int .i64) w A2 l2.length l2) (hc2 : l2.length ≤ c2) (h : mapmakerlaw41_CustomBuilds.f a0_0 l0_1 l1 l2 = some r) :
    Calls Try.prog 8 #[.agg #[.int .i64 a0_0, .slice A0_1 l0_1.length c0_1], .slice A1 l1.length c1, .slice A2 l2.length c2] w fun e w' => e = .returned (.bool r) ∧ Below w.heap.size w w' := by
  injection h with h
  subst h
  obtain ⟨fb, hfb, hfw⟩ := few41 a0_0 l0_1 l2
  have HFB := Aside0.mk hfb
  have HFW := Aside0.mk hfw
  have HG := Aside0.mk hr0_1
  have HL := Aside0.mk hr1
  have HW := Aside0.mk hr2
  have HGC := Aside0.mk hc0_1
  have HLC := Aside0.mk hc1
  have HWC := Aside0.mk hc2
  clear hr0_1 hr1 hr2 hc0_1 hc1 hc2 hfb hfw
  go_enter Try.func8, Try.ntmps8
  go_wp2_with (fail)
  have HBK := Aside0.mk (heap_alloc_new w (Obj.cells #[.int .i64 a0_0, .slice A0_1 l0_1.length c0_1] 24))
  have HBE : Below w.heap.size w (w.alloc (Obj.cells #[.int .i64 a0_0, .slice A0_1 l0_1.length c0_1] 24)) := (Below.refl _ _).alloc (Nat.le_refl _) _
  replace HG := Aside0.mk (Kd.C_below HG.out HBE)
  replace HL := Aside0.mk (Kd.C_below HL.out HBE)
  replace HW := Aside0.mk (Kd.C_below HW.out HBE)
  have HB := Aside0.mk HBE
  generalize w.alloc (Obj.cells #[.int .i64 a0_0, .slice A0_1 l0_1.length c0_1] 24) = w1 at HBK HG HL HW HB ⊢
  clear HBE
  refine (mapmakerlaw41_few.calls a0_0 A0_1 c0_1 l0_1 A2 c2 l2 fb w1 HG.out HGC.out HW.out HWC.out HFB.out).mono ?_
  rintro e w2 ⟨rfl, hb2⟩
  replace HBK := Aside0.mk (blk_below HBK.out hb2)
  replace HG := Aside0.mk (Kd.C_below HG.out hb2)
  replace HL := Aside0.mk (Kd.C_below HL.out hb2)
  replace HW := Aside0.mk (Kd.C_below HW.out hb2)
  replace HB := Aside0.mk (below_then HB.out HB.out.size hb2)
  clear hb2
  cases fb with
  | false =>
    go_wp2_with (fail)
    refine (mapmakerlaw41_lives.calls _).mono ?_
    rintro e w3 ⟨rfl, hb3⟩
    replace HB := Aside0.mk (below_then HB.out HB.out.size hb3)
    clear hb3
    go_wp2
    go_ret
    exact ⟨rfl, HB.out⟩
  | true =>
    obtain ⟨hN, hal, hwl⟩ := HFW.out rfl
    by_cases hll : l1.length ≤ 20
    · have hc0 := (blk_cell HBK.out 0).trans rfl
      have hc1 := (blk_cell HBK.out 1).trans rfl
      go_wp2_with (fail)
      refine (contract_New.calls HG.out HGC.out HL.out HLC.out (.inl (by omega)) (by omega) (by omega)).mono ?_
      rintro e w3 ⟨hb3, hcs⟩
      replace HBK := Aside0.mk (blk_below HBK.out hb3)
      replace HG := Aside0.mk (Kd.C_below HG.out hb3)
      replace HL := Aside0.mk (Kd.C_below HL.out hb3)
      replace HW := Aside0.mk (Kd.C_below HW.out hb3)
      replace HB := Aside0.mk (below_then HB.out HB.out.size hb3)
      clear hb3 hc0 hc1
      have hc0 := (blk_cell HBK.out 0).trans rfl
      have hc1 := (blk_cell HBK.out 1).trans rfl
      rcases hcs with ⟨hne, rfl⟩ | ⟨h0, p, rfl, hH⟩
      · obtain ⟨kc, hkc⟩ := mapmakerref40_Check.ev a0_0 l0_1 l1 (by omega) (by omega)
        have HKC := Aside0.mk (hkc kc (Nat.le_refl _))
        clear hkc
        obtain ⟨rr, HR⟩ : ∃ rr, Aside0 (newErr a0_0 l0_1 l1 = rr) := ⟨_, ⟨rfl⟩⟩
        rw [HR.out] at hne HKC ⊢
        go_wp2_with (fail)
        refine (custom_New.nil A2 l2.length c2 _).mono ?_
        rintro e w4 ⟨rfl, rfl⟩
        go_wp2_with (fail)
        refine (mapmakerref40_Check.calls kc a0_0 A0_1 c0_1 l0_1 A1 c1 l1 rr _ HG.out HGC.out HL.out HLC.out HKC.out).mono ?_
        rintro e w5 ⟨rfl, hb5⟩
        replace HB := Aside0.mk (below_then HB.out HB.out.size hb5)
        clear hb5 hc0 hc1
        go_wp2_with (fail)
        refine (mapmakerlaw41_lives.calls _).mono ?_
        rintro e w6 ⟨rfl, hb6⟩
        replace HB := Aside0.mk (below_then HB.out HB.out.size hb6)
        clear hb6
        go_wp2
        go_ret
        exact ⟨rfl, HB.out⟩
      · obtain ⟨n, rfl, hn, hk⟩ := hk_of (by omega) h0
        rw [Int.toNat_natCast] at hH
        have HH := Aside0.mk (show HierOf w3 p n l0_1 l1 from hH)
        have HK := Aside0.mk hk
        have hn1 : n ≤ 100 := by omega
        clear hH hk h0 hn
        go_wp2_with (fail)
        refine (custom_New.of HK.out hn1 HH.out (by omega) HW.out HWC.out (by omega)).mono ?_
        rintro e w4 ⟨hb4, hcs⟩
        replace HBK := Aside0.mk (blk_below HBK.out hb4)
        replace HG := Aside0.mk (Kd.C_below HG.out hb4)
        replace HL := Aside0.mk (Kd.C_below HL.out hb4)
        replace HW := Aside0.mk (Kd.C_below HW.out hb4)
        replace HB := Aside0.mk (below_then HB.out HB.out.size hb4)
        clear hc0 hc1
        have hc0 := (blk_cell HBK.out 0).trans rfl
        have hc1 := (blk_cell HBK.out 1).trans rfl
        rcases hcs with ⟨hne, rfl⟩ | ⟨h0, q, o, wv, uv, dv, Ba, va, rfl, hM⟩
        · clear hb4
          have HNE := Aside0.mk hne
          obtain ⟨rr, HR⟩ : ∃ rr, Aside0 (dchk (n : Int) l0_1 l2 = rr) := ⟨_, ⟨rfl⟩⟩
          rw [HR.out] at hne ⊢
          go_wp2_with (fail)
          refine (ref41_New.calls HG.out HGC.out HW.out HWC.out (by omega) (by omega)).mono ?_
          rintro e w5 ⟨hb5, (⟨he, _⟩ | ⟨_, rfl⟩)⟩
          · exact absurd he HNE.out
          rw [HR.out]
          replace HB := Aside0.mk (below_then HB.out HB.out.size hb5)
          replace HB := Aside0.mk (below_then HB.out HB.out.size ((Below.refl _ _).alloc (Nat.le_refl _) (Obj.cells #[.bool true, .int .i64 0, .slice none 0 0, .slice none 0 0, .slice none 0 0] 67)))
          clear hb5 hc0 hc1
          go_wp2_with (fail)
          refine (mapmakerlaw41_lives.calls _).mono ?_
          rintro e w6 ⟨rfl, hb6⟩
          replace HB := Aside0.mk (below_then HB.out HB.out.size hb6)
          clear hb6
          go_wp2
          go_ret
          exact ⟨rfl, HB.out⟩
        · have HM := Aside0.mk (show MetH w4 q p n l0_1 l1 l2 from ⟨w3, o, wv, uv, dv, Ba, va, HH.out, hb4, hM⟩)
          have HD := Aside0.mk h0
          clear hb4 hM h0 HH
          go_wp2_with (fail)
          refine (ref41_New.calls HG.out HGC.out HW.out HWC.out (by omega) (by omega)).mono ?_
          rintro e w5 ⟨hb5, (⟨_, rfl⟩ | ⟨he, _⟩)⟩
          rotate_left
          · exact absurd HD.out he
          replace HG := Aside0.mk (Kd.C_below HG.out hb5)
          replace HL := Aside0.mk (Kd.C_below HL.out hb5)
          replace HW := Aside0.mk (Kd.C_below HW.out hb5)
          replace HM := Aside0.mk (HM.out.below hb5)
          replace HB := Aside0.mk (below_then HB.out HB.out.size hb5)
          clear hb5 hc0 hc1
          go_wp2_with (fail)
          have hba : Below w5.heap.size w5 (w5.alloc (Obj.cells #[.bool false, .int .i64 (n : Int), .slice A0_1 l0_1.length c0_1, .slice A1 l1.length c1, .slice A2 l2.length c2] 67)) := (Below.refl _ _).alloc (Nat.le_refl _) _
          have HB5 := Aside0.mk (heap_alloc_new w5 (Obj.cells #[.bool false, .int .i64 (n : Int), .slice A0_1 l0_1.length c0_1, .slice A1 l1.length c1, .slice A2 l2.length c2] 67))
          replace HG := Aside0.mk (Kd.C_below HG.out hba)
          replace HL := Aside0.mk (Kd.C_below HL.out hba)
          replace HW := Aside0.mk (Kd.C_below HW.out hba)
          replace HM := Aside0.mk (HM.out.below hba)
          replace HB := Aside0.mk (below_then HB.out HB.out.size hba)
          clear hba
          generalize w5.alloc (Obj.cells #[.bool false, .int .i64 (n : Int), .slice A0_1 l0_1.length c0_1, .slice A1 l1.length c1, .slice A2 l2.length c2] 67) = w6 at HG HL HW HM HB HB5 ⊢
          generalize w5.heap.size = b5 at HB5 ⊢
          refine (Metric_Hier.calls (HM.out.reads HK.out (by omega))).mono ?_
          rintro e w7 ⟨rfl, rfl⟩
          have d0 := (blk_cell HB5.out 0).trans rfl
          have d1 := (blk_cell HB5.out 1).trans rfl
          have d2 := (blk_cell HB5.out 2).trans rfl
          have d3 := (blk_cell HB5.out 3).trans rfl
          have d4 := (blk_cell HB5.out 4).trans rfl
          go_wp2_with (fail)
          refine (law41_same.calls HK.out (by omega) (by omega) (dchk_ok HD.out).2.1 (by omega) HM.out HG.out HGC.out HL.out HLC.out HW.out HWC.out).mono ?_
          rintro e w8 ⟨rfl, hb8⟩
          replace HB := Aside0.mk (below_then HB.out HB.out.size hb8)
          clear hb8 d0 d1 d2 d3 d4
          go_wp2_with (fail)
          refine (mapmakerlaw41_lives.calls _).mono ?_
          rintro e w9 ⟨rfl, hb9⟩
          replace HB := Aside0.mk (below_then HB.out HB.out.size hb9)
          clear hb9
          go_wp2
          go_ret
          exact ⟨rfl, HB.out⟩
    · go_wp2_with (fail)
      refine (mapmakerlaw41_lives.calls _).mono ?_
      rintro e w3 ⟨rfl, hb3⟩
      replace HB := Aside0.mk (below_then HB.out HB.out.size hb3)
      clear hb3
      go_wp2
      go_ret
      exact ⟨rfl, HB.out⟩
end Go.Proofs.Ytcfeehaoeaoegaa.Print
