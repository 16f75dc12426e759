import Derived.Test.YtfnophaiamkmpaaM32
namespace Go.Proofs.Ytfnophaiamkmpaa.Print
open Go.RowKit Go.Proofs.YtfnophaiamkmpaaW.PrintWords Go.Proofs.YtfnophaiamkmpaaW.PrintLast Go.Proofs.YtfnophaiamkmpaaW.PrintMore
set_option linter.unusedVariables false
set_option linter.unusedSimpArgs false
def mapmakerlaw43_SweepAgrees.f (a0_0 : Int) (l0_1 : List S58) (l1 : List Int) (l2 : List Int) (l3 : List Int) (a4 : Int) : Option Bool := some true
set_option maxHeartbeats 12800000 in
set_option maxRecDepth 100000 in
theorem mapmakerlaw43_SweepAgrees.calls (a0_0 : Int) (A0_1 : Option Addr) (c0_1 : Nat) (l0_1 : List S58) (A1 : Option Addr) (c1 : Nat) (l1 : List Int) (A2 : Option Addr) (c2 : Nat) (l2 : List Int) (A3 : Option Addr) (c3 : Nat) (l3 : List Int) (a4 : Int) (r : Bool) (w : World) (hr0_1 : Kd.C k58 w A0_1 l0_1.length l0_1) (hc0_1 : l0_1.length ≤ c0_1) (hr1 : Kd.C (Kd.int .i64) w A1 l1.length l1) (hc1 : l1.length ≤ c1) (hr2 : Kd.C (Kd.int .i64) w A2 l2.length l2) (hc2 : l2.length ≤ c2) (hr3 : Kd.C (Kd.int .i64) w A3 l3.length l3) (hc3 : l3.length ≤ c3) (h : mapmakerlaw43_SweepAgrees.f a0_0 l0_1 l1 l2 l3 a4 = some r) :
  Calls Try.prog 13 #[.agg #[.int .i64 a0_0, .slice A0_1 l0_1.length c0_1], .slice A1 l1.length c1, .slice A2 l2.length c2, .slice A3 l3.length c3, .int .i64 a4] w fun e w' => e = .returned (.bool r) ∧ Below w.heap.size w w' := by
 injection h with h
 subst h
 obtain ⟨ks, fb, hfb, hfw⟩ := small43 a0_0 l0_1 l3
 have HFB := Aside0.mk hfb
 have HFW := Aside0.mk hfw
 have HG := Aside0.mk hr0_1
 have HGC := Aside0.mk hc0_1
 have HL1 := Aside0.mk hr1
 have HC1 := Aside0.mk hc1
 have HL2 := Aside0.mk hr2
 have HC2 := Aside0.mk hc2
 have HL3 := Aside0.mk hr3
 have HC3 := Aside0.mk hc3
 clear hr0_1 hc0_1 hfb hfw hr1 hc1 hr2 hc2 hr3 hc3
 go_enter Try.func13, Try.ntmps13
 go_wp2_with (fail)
 have HBK := Aside0.mk (heap_alloc_new w (Obj.cells #[.int .i64 a0_0, .slice A0_1 l0_1.length c0_1] 24))
 have HBE : Below w.heap.size w (w.alloc (Obj.cells #[.int .i64 a0_0, .slice A0_1 l0_1.length c0_1] 24)) := (Below.refl _ _).alloc (Nat.le_refl _) _
 have HB := Aside0.mk HBE
 replace HG := Aside0.mk (Kd.C_below HG.out HBE)
 replace HL1 := Aside0.mk (Kd.C_below HL1.out HBE)
 replace HL2 := Aside0.mk (Kd.C_below HL2.out HBE)
 replace HL3 := Aside0.mk (Kd.C_below HL3.out HBE)
 generalize w.alloc (Obj.cells #[.int .i64 a0_0, .slice A0_1 l0_1.length c0_1] 24) = w1 at HBK HG HL1 HL2 HL3 HB ⊢
 clear HBE
 refine (mapmakerlaw38_Small.calls ks a0_0 A0_1 c0_1 l0_1 A3 c3 l3 fb w1 HG.out HGC.out HL3.out HC3.out HFB.out).mono ?_
 rintro e w2 ⟨rfl, hb2⟩
 replace HBK := Aside0.mk (blk_below HBK.out hb2)
 replace HG := Aside0.mk (Kd.C_below HG.out hb2)
 replace HB := Aside0.mk (below_then HB.out HB.out.size hb2)
 replace HL1 := Aside0.mk (Kd.C_below HL1.out hb2)
 replace HL2 := Aside0.mk (Kd.C_below HL2.out hb2)
 replace HL3 := Aside0.mk (Kd.C_below HL3.out hb2)
 clear hb2
 cases fb with
 | false =>
  clear HFW
  go_wp2_with (fail)
  refine (mapmakerlaw43_lives.calls _).mono ?_
  rintro e wl ⟨rfl, hbl⟩
  replace HB := Aside0.mk (below_then HB.out HB.out.size hbl)
  clear hbl
  go_wp2
  go_ret
  exact ⟨rfl, HB.out⟩
 | true =>
  obtain ⟨hN0, hN, hal, hwl, hd⟩ := HFW.out rfl
  have HD := Aside0.mk hd
  clear HFW HFB hd
  have d0 := (blk_cell HBK.out 0).trans rfl
  by_cases hll1 : l1.length ≤ 10
  ·by_cases hll2 : l2.length ≤ 10
   ·by_cases hs0 : 0 ≤ a4
    ·by_cases hs1 : a4 < a0_0
     ·clear d0
      have d0 := (blk_cell HBK.out 0).trans rfl
      have d1 := (blk_cell HBK.out 1).trans rfl
      go_wp2_with (fail)
      refine (law41_Setup.calls HG.out HGC.out HL1.out HC1.out HL3.out HC3.out (by omega) (by omega) (by omega) (by omega)).mono ?_
      rintro e w3a ⟨hb3, (⟨hne, rfl⟩ | ⟨h0, hd0, qa, pa, rfl, hM⟩)⟩
      ·replace HBK := Aside0.mk (blk_below HBK.out hb3)
       replace HG := Aside0.mk (Kd.C_below HG.out hb3)
       replace HB := Aside0.mk (below_then HB.out HB.out.size hb3)
       replace HL1 := Aside0.mk (Kd.C_below HL1.out hb3)
       replace HL2 := Aside0.mk (Kd.C_below HL2.out hb3)
       replace HL3 := Aside0.mk (Kd.C_below HL3.out hb3)
       clear hb3 d0 d1
       clear hne
       have d0 := (blk_cell HBK.out 0).trans rfl
       have d1 := (blk_cell HBK.out 1).trans rfl
       go_wp2_with (fail)
       refine (law41_Setup.calls HG.out HGC.out HL2.out HC2.out HL3.out HC3.out (by omega) (by omega) (by omega) (by omega)).mono ?_
       rintro e w3b ⟨hb3, (⟨hne, rfl⟩ | ⟨h0, hd0, qb, pb, rfl, hM⟩)⟩
       ·clear hne
        replace HB := Aside0.mk (below_then HB.out HB.out.size hb3)
        clear hb3 d0 d1
        go_wp2_with (fail)
        refine (mapmakerlaw43_lives.calls _).mono ?_
        rintro e wl ⟨rfl, hbl⟩
        replace HB := Aside0.mk (below_then HB.out HB.out.size hbl)
        clear hbl
        go_wp2
        go_ret
        exact ⟨rfl, HB.out⟩
       ·clear hM h0 hd0
        replace HB := Aside0.mk (below_then HB.out HB.out.size hb3)
        clear hb3 d0 d1
        go_wp2_with (fail)
        refine (mapmakerlaw43_lives.calls _).mono ?_
        rintro e wl ⟨rfl, hbl⟩
        replace HB := Aside0.mk (below_then HB.out HB.out.size hbl)
        clear hbl
        go_wp2
        go_ret
        exact ⟨rfl, HB.out⟩
      ·have h0a := Aside0.mk h0
       have hMa := Aside0.mk hM
       replace HBK := Aside0.mk (blk_below HBK.out hb3)
       replace HG := Aside0.mk (Kd.C_below HG.out hb3)
       replace HB := Aside0.mk (below_then HB.out HB.out.size hb3)
       replace HL1 := Aside0.mk (Kd.C_below HL1.out hb3)
       replace HL2 := Aside0.mk (Kd.C_below HL2.out hb3)
       replace HL3 := Aside0.mk (Kd.C_below HL3.out hb3)
       clear hb3 d0 d1
       clear h0 hd0 hM
       replace hMa := Aside0.mk hMa.out
       have d0 := (blk_cell HBK.out 0).trans rfl
       have d1 := (blk_cell HBK.out 1).trans rfl
       go_wp2_with (fail)
       refine (law41_Setup.calls HG.out HGC.out HL2.out HC2.out HL3.out HC3.out (by omega) (by omega) (by omega) (by omega)).mono ?_
       rintro e w3b ⟨hb3, (⟨hne, rfl⟩ | ⟨h0, hd0, qb, pb, rfl, hM⟩)⟩
       ·clear hne
        replace HB := Aside0.mk (below_then HB.out HB.out.size hb3)
        clear hb3 d0 d1
        go_wp2_with (fail)
        refine (mapmakerlaw43_lives.calls _).mono ?_
        rintro e wl ⟨rfl, hbl⟩
        replace HB := Aside0.mk (below_then HB.out HB.out.size hbl)
        clear hbl
        go_wp2
        go_ret
        exact ⟨rfl, HB.out⟩
       ·obtain ⟨n, rfl, ho⟩ := netOk_of hN hal h0a.out hd0
        obtain ⟨n2, hn2, ho2⟩ := netOk_of hN hal h0 hd0
        obtain rfl : n2 = n := by omega
        rw [Int.toNat_natCast] at hM hMa
        have HO := Aside0.mk ho
        have HP := Aside0.mk ho2
        have HM := Aside0.mk (hMa.out.below hb3)
        have HMb := Aside0.mk hM
        replace HBK := Aside0.mk (blk_below HBK.out hb3)
        replace HG := Aside0.mk (Kd.C_below HG.out hb3)
        replace HB := Aside0.mk (below_then HB.out HB.out.size hb3)
        clear hb3 h0 hd0 ho ho2 hn2 hM hMa h0a d0 d1 HL1 HL2 HL3 HG
        have hpc := HO.out.pc qa pa
        have hqc := HP.out.pc qb pb
        obtain ⟨sN, rfl⟩ : ∃ sN : Nat, a4 = (sN : Int) := ⟨a4.toNat, by omega⟩
        have hsN : sN < n2 := by omega
        obtain ⟨D, hD⟩ := dist_of HO.out hsN
        have HDD := Aside0.mk hD
        have HDZ := Aside0.mk (hD.zero hsN)
        have HDL := Aside0.mk hD.len
        clear hD
        go_wp2_with (fail)
        refine (sweep_From.calls hpc.hk hpc.hn HM.out hpc.wl hpc.wr (sN : Int)).mono ?_
        rintro e w4 hout
        obtain ⟨hb4, A, g1, rfl, hc4, hC4⟩ := SwOut.from_ HO.out hsN HDD.out hout
        have HDA := Aside0.mk hC4
        have HCA := Aside0.mk hc4
        replace HBK := Aside0.mk (blk_below HBK.out hb4)
        replace HM := Aside0.mk (HM.out.below hb4)
        replace HMb := Aside0.mk (HMb.out.below hb4)
        replace HB := Aside0.mk (below_then HB.out HB.out.size hb4)
        clear hb4 hout hc4 hC4
        go_wp2_with (fail)
        refine (sweep_From.calls hqc.hk hqc.hn HMb.out hqc.wl hqc.wr (sN : Int)).mono ?_
        rintro e w5 hout
        obtain ⟨hb5, A2, g2, rfl, hc5, hC5⟩ := SwOut.from_ HP.out hsN HDD.out hout
        have HDB := Aside0.mk hC5
        have HCB := Aside0.mk hc5
        replace HBK := Aside0.mk (blk_below HBK.out hb5)
        replace HM := Aside0.mk (HM.out.below hb5)
        replace HMb := Aside0.mk (HMb.out.below hb5)
        replace HDA := Aside0.mk (Kd.C_below HDA.out hb5)
        replace HB := Aside0.mk (below_then HB.out HB.out.size hb5)
        clear hb5 hout hc5 hC5
        obtain ⟨ke, hke⟩ := mapmakerref05_Equal.ev D D (by have := HDL.out; have := HO.out.hn; omega)
        have HKE := Aside0.mk ((hke ke (Nat.le_refl _)).trans (by rw [decide_eq_true rfl]))
        clear hke
        rcases cells_of_C HDA.out with ⟨hz, _⟩ | ⟨_, ab, ao, hA, hce⟩
        ·omega
        subst hA
        have hcs := hce sN (by have := HDL.out; omega)
        rw [HDZ.out] at hcs
        have d0 := (blk_cell HBK.out 0).trans rfl
        clear hce
        go_wp2_with (fail)
        have HEC := mapmakerref05_Equal.calls ke (some ⟨ab, ao, none⟩) g1 D A2 g2 D true w5 (by rw [HDL.out]; exact HDA.out) (by rw [HDL.out]; exact HCA.out) (by rw [HDL.out]; exact HDB.out) (by rw [HDL.out]; exact HCB.out) HKE.out
        rw [HDL.out] at HEC
        refine HEC.mono ?_
        rintro e w6 ⟨rfl, hdr⟩
        have hb6 := hdr.below
        replace HBK := Aside0.mk (blk_below HBK.out hb6)
        replace HM := Aside0.mk (HM.out.below hb6)
        replace HMb := Aside0.mk (HMb.out.below hb6)
        replace HDA := Aside0.mk (Kd.C_below HDA.out hb6)
        replace HB := Aside0.mk (below_then HB.out HB.out.size hb6)
        have hcs6 := pw_cell_below hb6 hcs
        clear hdr hb6 HKE HEC d0 hcs HDB HCB
        have d0 := (blk_cell HBK.out 0).trans rfl
        go_wp2_with (fail)
        go_loopw [19] (fun i wr => ∃ k : Nat, i = .int .i64 (k : Int) ∧ k ≤ n2 ∧ Aside0 (Below w6.heap.size w6 wr)) (fun i _ => n2 - (intOf i).toNat)
        case atStart => exact ⟨0, rfl, Nat.zero_le _, ⟨Below.refl _ _⟩⟩
        case round =>
         obtain ⟨k, rfl, hk, HBL⟩ := hrel
         clear d0 hcs6
         have HBKr := Aside0.mk (blk_below HBK.out HBL.out)
         have d0 := (blk_cell HBKr.out 0).trans rfl
         by_cases hkn : k < n2
         ·have HM2 := Aside0.mk (HM.out.below HBL.out)
          have HM3 := Aside0.mk (HMb.out.below HBL.out)
          have HDR := Aside0.mk (Kd.C_below HDA.out HBL.out)
          go_wp2_with (fail)
          refine (query_Dist.calls hpc.hk hpc.hn HM2.out hpc.wl hpc.wr (sN : Int) (k : Int)).mono ?_
          rintro e w7 ⟨hb7, hcs⟩
          obtain ⟨z, HZ⟩ : ∃ z, Aside0 (D.getD k 0 = z) := ⟨_, ⟨rfl⟩⟩
          have he := dist_is HO.out hsN hkn HDD.out hcs
          rw [HZ.out] at he
          subst he
          replace HBL := Aside0.mk (below_then HBL.out HBL.out.size hb7)
          replace HM3 := Aside0.mk (HM3.out.below hb7)
          replace HBKr := Aside0.mk (blk_below HBKr.out hb7)
          replace HDR := Aside0.mk (Kd.C_below HDR.out hb7)
          clear hb7 hcs HM2 d0
          go_wp2_with (fail)
          refine (sweep_To.calls hqc.hk hqc.hn HM3.out hqc.wl hqc.wr (k : Int)).mono ?_
          rintro e w8 hout
          obtain ⟨hb8, bb, bo, g3, rfl, hcb⟩ := SwOut.to_ HP.out hsN hkn HDD.out hout
          replace HBL := Aside0.mk (below_then HBL.out HBL.out.size hb8)
          replace HBKr := Aside0.mk (blk_below HBKr.out hb8)
          replace HDR := Aside0.mk (Kd.C_below HDR.out hb8)
          rcases cells_of_C HDR.out with ⟨hz, _⟩ | ⟨_, ab', ao', hA, hce⟩
          ·omega
          injection hA with e1
          injection e1 with e1 e2 _
          subst e1 e2
          have hca := hce k (by have := HDL.out; omega)
          have d0 := (blk_cell HBKr.out 0).trans rfl
          clear hb8 hout HM3 HDR hce
          rw [HZ.out] at hca hcb
          go_wp2_with (fail)
          go_quiet (fail)
          go_wp2_with (fail)
          go_roundw
          case rel => exact ⟨k + 1, by go_num, by omega, ⟨byB HBL.out⟩⟩
          case measure => simp [intOf]; omega
         ·have HBX := Aside0.mk (below_then HB.out HB.out.size HBL.out)
          go_wp2_with (fail)
          refine (mapmakerlaw43_lives.calls _).mono ?_
          rintro e wl ⟨rfl, hbl⟩
          replace HBX := Aside0.mk (below_then HBX.out HBX.out.size hbl)
          clear hbl
          go_wp2
          go_ret
          exact ⟨rfl, HBX.out⟩
     ·go_wp2_with (fail)
      refine (mapmakerlaw43_lives.calls _).mono ?_
      rintro e wl ⟨rfl, hbl⟩
      replace HB := Aside0.mk (below_then HB.out HB.out.size hbl)
      clear hbl
      go_wp2
      go_ret
      exact ⟨rfl, HB.out⟩
    ·go_wp2_with (fail)
     refine (mapmakerlaw43_lives.calls _).mono ?_
     rintro e wl ⟨rfl, hbl⟩
     replace HB := Aside0.mk (below_then HB.out HB.out.size hbl)
     clear hbl
     go_wp2
     go_ret
     exact ⟨rfl, HB.out⟩
   ·go_wp2_with (fail)
    refine (mapmakerlaw43_lives.calls _).mono ?_
    rintro e wl ⟨rfl, hbl⟩
    replace HB := Aside0.mk (below_then HB.out HB.out.size hbl)
    clear hbl
    go_wp2
    go_ret
    exact ⟨rfl, HB.out⟩
  ·go_wp2_with (fail)
   refine (mapmakerlaw43_lives.calls _).mono ?_
   rintro e wl ⟨rfl, hbl⟩
   replace HB := Aside0.mk (below_then HB.out HB.out.size hbl)
   clear hbl
   go_wp2
   go_ret
   exact ⟨rfl, HB.out⟩
end Go.Proofs.Ytfnophaiamkmpaa.Print
