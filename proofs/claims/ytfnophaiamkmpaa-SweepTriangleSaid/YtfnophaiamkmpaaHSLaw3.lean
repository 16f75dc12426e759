import Derived.Test.YtfnophaiamkmpaaM32
import Derived.Test.YtfnophaiamkmpaaM5
namespace Go.Proofs.Ytfnophaiamkmpaa.Print
open Go.RowKit Go.Proofs.YtfnophaiamkmpaaW.PrintWords Go.Proofs.YtfnophaiamkmpaaW.PrintLast Go.Proofs.YtfnophaiamkmpaaW.PrintMore
set_option linter.unusedVariables false
set_option linter.unusedSimpArgs false
theorem dec_beq (a b : Int) : decide (a = b) = (a == b) := by
 by_cases h : a = b <;> simp [h]
theorem flags_list (n : Nat) : flags n = (List.replicate n (Value.bool false)).toArray := by
 apply Array.ext'
 apply List.ext_getElem
 ·simp [flags, madeCells]
 ·intro i h1 h2
  simp [flags, madeCells, Nat.mod_one]
def mapmakerlaw43_SweepTriangle.f (a0_0 : Int) (l0_1 : List S58) (l1 : List Int) (l2 : List Int) (a3 : Int) : Option Bool := some true
set_option maxHeartbeats 12800000 in
set_option maxRecDepth 100000 in
theorem mapmakerlaw43_SweepTriangle.calls (a0_0 : Int) (A0_1 : Option Addr) (c0_1 : Nat) (l0_1 : List S58) (A1 : Option Addr) (c1 : Nat) (l1 : List Int) (A2 : Option Addr) (c2 : Nat) (l2 : List Int) (a3 : Int) (r : Bool) (w : World) (hr0_1 : Kd.C k58 w A0_1 l0_1.length l0_1) (hc0_1 : l0_1.length ≤ c0_1) (hr1 : Kd.C (Kd.int .i64) w A1 l1.length l1) (hc1 : l1.length ≤ c1) (hr2 : Kd.C (Kd.int .i64) w A2 l2.length l2) (hc2 : l2.length ≤ c2) (h : mapmakerlaw43_SweepTriangle.f a0_0 l0_1 l1 l2 a3 = some r) :
  Calls Try.prog 12 #[.agg #[.int .i64 a0_0, .slice A0_1 l0_1.length c0_1], .slice A1 l1.length c1, .slice A2 l2.length c2, .int .i64 a3] w fun e w' => e = .returned (.bool r) ∧ Below w.heap.size w w' := by
 injection h with h
 subst h
 obtain ⟨ks, fb, hfb, hfw⟩ := small43 a0_0 l0_1 l2
 have HFB := Aside0.mk hfb
 have HFW := Aside0.mk hfw
 have HG := Aside0.mk hr0_1
 have HGC := Aside0.mk hc0_1
 have HL1 := Aside0.mk hr1
 have HC1 := Aside0.mk hc1
 have HL2 := Aside0.mk hr2
 have HC2 := Aside0.mk hc2
 clear hr0_1 hc0_1 hfb hfw hr1 hc1 hr2 hc2
 go_enter Try.func12, Try.ntmps12
 go_wp2_with (fail)
 have HBK := Aside0.mk (heap_alloc_new w (Obj.cells #[.int .i64 a0_0, .slice A0_1 l0_1.length c0_1] 24))
 have HBE : Below w.heap.size w (w.alloc (Obj.cells #[.int .i64 a0_0, .slice A0_1 l0_1.length c0_1] 24)) := (Below.refl _ _).alloc (Nat.le_refl _) _
 have HB := Aside0.mk HBE
 replace HG := Aside0.mk (Kd.C_below HG.out HBE)
 replace HL1 := Aside0.mk (Kd.C_below HL1.out HBE)
 replace HL2 := Aside0.mk (Kd.C_below HL2.out HBE)
 generalize w.alloc (Obj.cells #[.int .i64 a0_0, .slice A0_1 l0_1.length c0_1] 24) = w1 at HBK HG HL1 HL2 HB ⊢
 clear HBE
 refine (mapmakerlaw38_Small.calls ks a0_0 A0_1 c0_1 l0_1 A2 c2 l2 fb w1 HG.out HGC.out HL2.out HC2.out HFB.out).mono ?_
 rintro e w2 ⟨rfl, hb2⟩
 replace HBK := Aside0.mk (blk_below HBK.out hb2)
 replace HG := Aside0.mk (Kd.C_below HG.out hb2)
 replace HB := Aside0.mk (below_then HB.out HB.out.size hb2)
 replace HL1 := Aside0.mk (Kd.C_below HL1.out hb2)
 replace HL2 := Aside0.mk (Kd.C_below HL2.out hb2)
 clear hb2
 cases fb with
 | false =>
  clear HFW
  go_wp2_with (fail)
  refine (mapmakerlaw43_lives.calls _).mono ?_
  rintro e wl ⟨rfl, hbl⟩
  replace HB := Aside0.mk (below_then HB.out HB.out.size hbl)
  clear hbl
  go_wp2
  go_ret
  exact ⟨rfl, HB.out⟩
 | true =>
  obtain ⟨hN0, hN, hal, hwl, hd⟩ := HFW.out rfl
  have HD := Aside0.mk hd
  obtain ⟨kc, hkc⟩ := refchk_ev a0_0 l0_1 l2 (by omega) (by omega)
  have HKC : Aside0 (mapmakerref38_Check.f kc a0_0 l0_1 l2 = some 0) := ⟨(hkc kc (Nat.le_refl _)).trans (by rw [hd])⟩
  clear HFW HFB hd hkc
  have d0 := (blk_cell HBK.out 0).trans rfl
  have d1 := (blk_cell HBK.out 1).trans rfl
  by_cases hll1 : l1.length ≤ 10
  ·by_cases hs0 : 0 ≤ a3
   ·by_cases hs1 : a3 < a0_0
    ·go_wp2_with (fail)
     refine (mapmakerref38_Check.calls kc a0_0 A0_1 c0_1 l0_1 A2 c2 l2 0 _ HG.out HGC.out HL2.out HC2.out HKC.out).mono ?_
     rintro e w2c ⟨rfl, hb2⟩
     replace HBK := Aside0.mk (blk_below HBK.out hb2)
     replace HG := Aside0.mk (Kd.C_below HG.out hb2)
     replace HB := Aside0.mk (below_then HB.out HB.out.size hb2)
     replace HL1 := Aside0.mk (Kd.C_below HL1.out hb2)
     replace HL2 := Aside0.mk (Kd.C_below HL2.out hb2)
     clear hb2 d0 d1 HKC
     have d0 := (blk_cell HBK.out 0).trans rfl
     have d1 := (blk_cell HBK.out 1).trans rfl
     go_wp2_with (fail)
     refine (law41_Setup.calls HG.out HGC.out HL1.out HC1.out HL2.out HC2.out (by omega) (by omega) (by omega) (by omega)).mono ?_
     rintro e w3 ⟨hb3, (⟨hne, rfl⟩ | ⟨h0, hd0, q, p, rfl, hM⟩)⟩
     ·replace HB := Aside0.mk (below_then HB.out HB.out.size hb3)
      clear hb3 hne d0 d1
      go_wp2_with (fail)
      refine (mapmakerlaw43_lives.calls _).mono ?_
      rintro e wl ⟨rfl, hbl⟩
      replace HB := Aside0.mk (below_then HB.out HB.out.size hbl)
      clear hbl
      go_wp2
      go_ret
      exact ⟨rfl, HB.out⟩
     ·obtain ⟨n, rfl, ho⟩ := netOk_of hN hal h0 hd0
      rw [Int.toNat_natCast] at hM
      have HO := Aside0.mk ho
      have HM := Aside0.mk hM
      replace HBK := Aside0.mk (blk_below HBK.out hb3)
      replace HG := Aside0.mk (Kd.C_below HG.out hb3)
      replace HB := Aside0.mk (below_then HB.out HB.out.size hb3)
      replace HL2 := Aside0.mk (Kd.C_below HL2.out hb3)
      clear hb3 h0 hd0 ho hM d0 d1
      have hpc := HO.out.pc q p
      obtain ⟨sN, rfl⟩ : ∃ sN : Nat, a3 = (sN : Int) := ⟨a3.toNat, by omega⟩
      have hsN : sN < n := by omega
      obtain ⟨D, hD⟩ := dist_of HO.out hsN
      have HDD := Aside0.mk hD
      have HDZ := Aside0.mk (hD.zero hsN)
      have HDL := Aside0.mk hD.len
      have HDS := Aside0.mk HO.out.hk.arcEnds
      have hn12 := HO.out.hn
      have HWL := Aside0.mk hpc.wl
      clear hD
      go_wp2_with (fail)
      refine (sweep_From.calls hpc.hk hpc.hn HM.out hpc.wl hpc.wr (sN : Int)).mono ?_
      rintro e w5 hout
      obtain ⟨hb5, A, g1, rfl, hc5, hC5⟩ := SwOut.from_ HO.out hsN HDD.out hout
      have HDA := Aside0.mk hC5
      replace HBK := Aside0.mk (blk_below HBK.out hb5)
      replace HG := Aside0.mk (Kd.C_below HG.out hb5)
      replace HB := Aside0.mk (below_then HB.out HB.out.size hb5)
      replace HL2 := Aside0.mk (Kd.C_below HL2.out hb5)
      clear hb5 hout hc5 hC5 HM
      rcases cells_of_C HDA.out with ⟨hz, _⟩ | ⟨_, ab, ao, hA, hce⟩
      ·omega
      subst hA
      have hcs := hce sN (by have := HDL.out; omega)
      rw [HDZ.out] at hcs
      have d0 := (blk_cell HBK.out 0).trans rfl
      have hmk := run_flags n (by omega)
      have hab : ab < w5.heap.size := World.block_lt_of_cell? _ _ hcs
      have hfl : (flags n)[sN]? = some (.bool false) := by rw [flags_list]; simp [hsN]
      clear hce
      go_wp2_with (fail)
      have HL6 : Aside0 (Below w5.heap.size w5 (w5.alloc (.cells ((flags n).setIfInBounds sN (.bool true)) 4 (0, 0)))) := ⟨(Below.refl _ _).alloc (Nat.le_refl _) _⟩
      have HB6 : Aside0 ((w5.alloc (.cells ((flags n).setIfInBounds sN (.bool true)) 4 (0, 0))).heap[w5.heap.size]? = some (Obj.cells ((atdL n l0_1 l2 D sN 0).map Value.bool).toArray 4)) := ⟨by rw [heap_alloc_new w5 _, atdL_zero, flags_list, List.setIfInBounds_toArray, List.map_set, List.map_replicate]⟩
      generalize w5.alloc (.cells ((flags n).setIfInBounds sN (.bool true)) 4 (0, 0)) = w6 at HL6 HB6 ⊢
      have HBW : Aside0 (w5.heap.size ≤ w5.heap.size) := ⟨Nat.le_refl _⟩
      obtain ⟨B, HBE⟩ : ∃ B, B = w5.heap.size := ⟨_, rfl⟩
      rw [← HBE] at HB6 ⊢
      replace HBW : Aside0 (w5.heap.size ≤ B) := ⟨by omega⟩
      clear HBE d0 hcs hmk hab hfl
      go_loopw [14] (fun i wr => ∃ k : Nat, i = .int .i64 (k : Int) ∧ k ≤ l0_1.length ∧ Aside0 (Below w5.heap.size w5 wr) ∧ Aside0 (wr.heap[B]? = some (Obj.cells ((atdL n l0_1 l2 D sN k).map Value.bool).toArray 4))) (fun i _ => l0_1.length - (intOf i).toNat)
      case atStart => exact ⟨0, rfl, Nat.zero_le _, HL6, HB6⟩
      case round =>
       clear HL6 HB6
       obtain ⟨k, rfl, hk, HBL, HBB⟩ := hrel
       have HBKr := Aside0.mk (blk_below HBK.out HBL.out)
       have HDR := Aside0.mk (Kd.C_below HDA.out HBL.out)
       have d1 := (blk_cell HBKr.out 1).trans rfl
       by_cases hkl : k < l0_1.length
       ·obtain ⟨ae, hA2, hx0, hx1⟩ := at_T58 (Kd.C_below HG.out HBL.out) (k : Int) (by omega) (by omega)
        obtain ⟨ae2, hA3, hz0, _⟩ := at_T58 (Kd.C_below HG.out HBL.out) 0 (by omega) (by omega)
        obtain rfl : ae2 = ae := Option.some.inj (hA3.symm.trans hA2)
        have hsp := spot_of_cell (ad := ae2) (by exact hz0)
        obtain ⟨rb, ro, rsb⟩ := ae2
        injection hsp with hz1 hz2 hes
        clear hz1 hz2 hz0 hA3
        subst hes
        simp only [Addr.add_lit, Int.toNat_natCast] at hx0 hx1
        subst hA2
        rw [rd_getD] at hx0 hx1
        obtain ⟨⟨ha0, ha1⟩, hb0, hb1⟩ := HDS.out k hkl
        obtain ⟨u, hu⟩ := Int.eq_ofNat_of_zero_le ha0
        obtain ⟨t, ht⟩ := Int.eq_ofNat_of_zero_le hb0
        have HU := Aside0.mk hu
        have HT := Aside0.mk ht
        rw [hu] at ha0 ha1 hx0
        rw [ht] at hb0 hb1 hx1
        have hun : u < n := by omega
        have htn : t < n := by omega
        clear hu ht ha0 ha1 hb0 hb1
        rcases cells_of_C (Kd.C_below HL2.out HBL.out) with ⟨hz, _⟩ | ⟨_, wb, wo, hA, hwe⟩
        ·have := HWL.out; omega
        subst hA
        have hcw := hwe k (by have := HWL.out; omega)
        rcases cells_of_C HDR.out with ⟨hz, _⟩ | ⟨_, ab', ao', hA, hce⟩
        ·omega
        injection hA with e1
        injection e1 with e1 e2 _
        subst e1 e2
        have hcu := hce u (by have := HDL.out; omega)
        have hct := hce t (by have := HDL.out; omega)
        have HOP : Aside0 (openA l0_1 l2 D k ↔ (0 ≤ l2.getD k 0 ∧ D.getD u 0 < mInf)) := ⟨by unfold openA; rw [HU.out, Int.toNat_natCast]⟩
        have HTRI := Aside0.mk (fun (h : 0 ≤ l2.getD k 0) (h2 : D.getD u 0 < mInf) => HDD.out.tri hkl h HU.out HT.out hun htn h2)
        have hwm := hpc.wr k (by have := HWL.out; omega)
        have hdu := HDD.out.rng u hun
        have hdt := HDD.out.rng t htn
        have HNXT : Aside0 (openA l0_1 l2 D k → atdL n l0_1 l2 D sN (k + 1) = (atdL n l0_1 l2 D sN k).set t (atdB l0_1 l2 D sN k t || decide (D.getD t 0 = D.getD u 0 + l2.getD k 0))) := ⟨fun h => by
         have := atdL_open (n := n) (s := sN) h HT.out
         rwa [HU.out, Int.toNat_natCast] at this⟩
        have HBT : Aside0 (wr.cell? ⟨B, t, none⟩ = some (.bool (atdB l0_1 l2 D sN k t))) := ⟨(blk_cell HBB.out t).trans (by simp [atdL_at htn])⟩
        obtain ⟨yw, HYW⟩ : ∃ y, Aside0 (l2.getD k 0 = y) := ⟨_, ⟨rfl⟩⟩
        obtain ⟨yu, HYU⟩ : ∃ y, Aside0 (D.getD u 0 = y) := ⟨_, ⟨rfl⟩⟩
        obtain ⟨yt, HYT⟩ : ∃ y, Aside0 (D.getD t 0 = y) := ⟨_, ⟨rfl⟩⟩
        obtain ⟨x, HX⟩ : ∃ x, Aside0 (atdB l0_1 l2 D sN k t = x) := ⟨_, ⟨rfl⟩⟩
        rw [HYW.out] at hcw HOP HTRI hwm HNXT
        rw [HYU.out] at hcu HOP HTRI hdu HNXT
        rw [HYT.out] at hct HTRI hdt HNXT
        rw [HX.out] at HNXT HBT
        have hki : (k : Int) < (l0_1.length : Int) := by omega
        have hwk : (k : Int) < (l2.length : Int) := by have := HWL.out; omega
        unfold mInf at hdu hdt
        have hwb : wb < wr.heap.size := World.block_lt_of_cell? _ _ hcw
        have hab : ab < wr.heap.size := World.block_lt_of_cell? _ _ hcu
        have hBB : B < wr.heap.size := blk_lt HBB.out
        clear hwe hce HDR
        by_cases hw0 : 0 ≤ yw
        ·by_cases hu0 : yu < 1152921504606846976
         ·have htr := HTRI.out hw0 hu0
          have HOPN := Aside0.mk (HOP.out.2 ⟨hw0, hu0⟩)
          have HNX := Aside0.mk (HNXT.out HOPN.out)
          clear HOP HTRI HNXT
          go_upto_region 16 with (fail)
          have hba : Below wr.heap.size wr (wr.alloc (Obj.cells #[.int .i64 (u : Int), .int .i64 (t : Int)] 58)) := (Below.refl _ _).alloc (Nat.le_refl _) _
          have HK15 := Aside0.mk (heap_alloc_new wr (Obj.cells #[.int .i64 (u : Int), .int .i64 (t : Int)] 58))
          replace HBB := Aside0.mk (blk_below HBB.out hba)
          replace HBT := Aside0.mk (pw_cell_below hba HBT.out)
          replace HBL := Aside0.mk (below_then HBL.out HBL.out.size hba)
          replace hcw := pw_cell_below hba hcw
          replace hcu := pw_cell_below hba hcu
          replace hct := pw_cell_below hba hct
          clear hba hx0 hx1 d1 hwb hab hBB
          generalize wr.alloc (Obj.cells #[.int .i64 (u : Int), .int .i64 (t : Int)] 58) = w7 at HK15 HBB HBT HBL hcw hcu hct ⊢
          generalize wr.heap.size = b15 at HK15 ⊢
          have k0 := (blk_cell HK15.out 0).trans rfl
          have k1 := (blk_cell HK15.out 1).trans rfl
          have hsum : wrap64 (yu + yw) = yu + yw := by unfold wrap64; omega
          go_quiet (fail)
          have hdn : Below w7.heap.size w7 (w7.drewN nq) := byB (Below.refl w7.heap.size w7)
          replace HBB := Aside0.mk (blk_below HBB.out hdn)
          replace HBT := Aside0.mk (pw_cell_below hdn HBT.out)
          replace HBL := Aside0.mk (below_then HBL.out HBL.out.size hdn)
          replace hcw := pw_cell_below hdn hcw
          replace hcu := pw_cell_below hdn hcu
          replace hct := pw_cell_below hdn hct
          replace k0 := pw_cell_below hdn k0
          replace k1 := pw_cell_below hdn k1
          clear hdn HK15
          generalize w7.drewN nq = w8 at HBB HBT HBL hcw hcu hct k0 k1 ⊢
          go_upto_region 18 with (fail)
          refine s_ (fun w' => w'.cell? ⟨b15, 0, none⟩ = some (.int .i64 (u : Int)) ∧ w'.cell? ⟨b15, 1, none⟩ = some (.int .i64 (t : Int)) ∧ w'.cell? ⟨B, t, none⟩ = some (.bool x) ∧ w'.cell? ⟨ab, ao + t, none⟩ = some (.int .i64 yt) ∧ w'.cell? ⟨ab, ao + u, none⟩ = some (.int .i64 yu) ∧ w'.cell? ⟨wb, wo + k, none⟩ = some (.int .i64 yw)) [27] ⟨k0, k1, HBT.out, hct, hcu, hcw⟩ (fun hHeld => ?_)
          replace HBL := Aside0.mk (below_then HBL.out HBL.out.size (below_drew (Below.refl _ _)))
          replace HBB := Aside0.mk (blk_below HBB.out (below_drew (Below.refl _ _)))
          generalize w8.drew = wd at HBL HBB hHeld ⊢
          clear hct hcu hcw k0 k1 HBT
          cases x with
          | true =>
           replace HNX : Aside0 (atdL n l0_1 l2 D sN (k + 1) = (atdL n l0_1 l2 D sN k).set t true) := HNX
           refine p_ 0 120 ?_
           refine p_ 1 121 ?_
           refine t6_ 2 122 hHeld ?_
           refine p_ 3 123 ?_
           refine p_ 4 124 ?_
           refine t6_ 5 125 hHeld ?_
           refine p_ 6 126 ?_
           refine t6_ 7 127 hHeld ?_
           refine p_ 8 128 ?_
           refine p_ (v := undef) 9 129 ?_ (hy := Or.inr ⟨by rfl, by rfl⟩)
           refine p_ (v := undef) 10 130 ?_ (hy := Or.inr ⟨by rfl, by rfl⟩)
           refine p_ (v := undef) 11 131 ?_ (hy := Or.inr ⟨by rfl, by rfl⟩)
           refine p_ (v := undef) 12 132 ?_ (hy := Or.inr ⟨by rfl, by rfl⟩)
           refine p_ (v := undef) 13 133 ?_ (hy := Or.inr ⟨by rfl, by rfl⟩)
           refine p_ (v := undef) 14 134 ?_ (hy := Or.inr ⟨by rfl, by rfl⟩)
           refine p_ (v := undef) 15 135 ?_ (hy := Or.inr ⟨by rfl, by rfl⟩)
           refine p_ (v := undef) 16 136 ?_ (hy := Or.inr ⟨by rfl, by rfl⟩)
           refine p_ (v := undef) 17 137 ?_ (hy := Or.inr ⟨by rfl, by rfl⟩)
           refine p_ (v := undef) 18 138 ?_ (hy := Or.inr ⟨by rfl, by rfl⟩)
           refine p_ (v := undef) 19 139 ?_ (hy := Or.inr ⟨by rfl, by rfl⟩)
           refine p_ (v := undef) 20 140 ?_ (hy := Or.inr ⟨by rfl, by rfl⟩)
           refine p_ (v := undef) 21 141 ?_ (hy := Or.inr ⟨by rfl, by rfl⟩)
           refine p_ (v := undef) 22 142 ?_ (hy := Or.inr ⟨by rfl, by rfl⟩)
           refine p_ (v := undef) 23 143 ?_ (hy := Or.inr ⟨by rfl, by rfl⟩)
           refine p_ (v := undef) 24 144 ?_ (hy := Or.inr ⟨by rfl, by rfl⟩)
           refine p_ 25 145 ?_
           refine p_ 26 146 ?_
           have c127 := hHeld.2.2.1
           have f127 : wd.frozen? ⟨B, t, none⟩ = false := blk_frozen HBB.out t
           refine l_ 27 (fun K hK => ?_)
           refine skip_ (w1 := ?_) (by rfl) rfl ?_ ?_
           rotate_left; (·go_simp; rfl)
           refine hK.out _ _ ?_
           clear hK K c127 f127 hHeld
           refine d_ ?_
           have HB9 : Aside0 ((wd.setCell ⟨B, t, none⟩ (.bool true)).heap[B]? = some (Obj.cells ((atdL n l0_1 l2 D sN (k + 1)).map Value.bool).toArray 4)) := ⟨blk_put HBB.out t (.bool true) (by rw [HNX.out]; simp [List.map_set])⟩
           have HL9 := Aside0.mk (HBL.out.setCell (p := ⟨B, t, none⟩) HBW.out (.bool true))
           generalize wd.setCell ⟨B, t, none⟩ (.bool true) = w9 at HB9 HL9 ⊢
           go_wp2_with (fail)
           go_roundw
           case rel => exact ⟨k + 1, by go_num, by omega, HL9, HB9⟩
           case measure => simp [intOf]; omega
          | false =>
           replace HNX : Aside0 (atdL n l0_1 l2 D sN (k + 1) = (atdL n l0_1 l2 D sN k).set t (yt == yu + yw)) := ⟨by rw [HNX.out, Bool.false_or, dec_beq]⟩
           refine p_ 0 120 ?_
           refine p_ 1 121 ?_
           refine t6_ 2 122 hHeld ?_
           refine p_ 3 123 ?_
           refine p_ 4 124 ?_
           refine t6_ 5 125 hHeld ?_
           refine p_ 6 126 ?_
           refine t6_ 7 127 hHeld ?_
           refine p_ 8 128 ?_
           refine p_ 9 129 ?_
           refine p_ 10 130 ?_
           refine t6_ 11 131 hHeld ?_
           refine p_ 12 132 ?_
           refine t6_ 13 133 hHeld ?_
           refine p_ 14 134 ?_
           refine p_ 15 135 ?_
           refine t6_ 16 136 hHeld ?_
           refine p_ 17 137 ?_
           refine t6_ 18 138 hHeld ?_
           refine p_ 19 139 ?_
           refine p_ 20 140 ?_
           refine p_ 21 141 ?_
           refine t6_ 22 142 hHeld ?_
           refine p_ 23 143 ?_
           refine p_ 24 144 ?_
           refine p_ 25 145 ?_
           refine p_ 26 146 ?_
           have c127 := hHeld.2.2.1
           have f127 : wd.frozen? ⟨B, t, none⟩ = false := blk_frozen HBB.out t
           refine l_ 27 (fun K hK => ?_)
           refine skip_ (w1 := ?_) (by rfl) rfl ?_ ?_
           rotate_left; (·go_simp; rfl)
           refine hK.out _ _ ?_
           clear hK K c127 f127 hHeld
           refine d_ ?_
           have HB9 : Aside0 ((wd.setCell ⟨B, t, none⟩ (.bool (yt == yu + yw))).heap[B]? = some (Obj.cells ((atdL n l0_1 l2 D sN (k + 1)).map Value.bool).toArray 4)) := ⟨blk_put HBB.out t (.bool (yt == yu + yw)) (by rw [HNX.out]; simp [List.map_set])⟩
           have HL9 := Aside0.mk (HBL.out.setCell (p := ⟨B, t, none⟩) HBW.out (.bool (yt == yu + yw)))
           generalize wd.setCell ⟨B, t, none⟩ (.bool (yt == yu + yw)) = w9 at HB9 HL9 ⊢
           go_wp2_with (fail)
           go_roundw
           case rel => exact ⟨k + 1, by go_num, by omega, HL9, HB9⟩
           case measure => simp [intOf]; omega
         ·have HSH := Aside0.mk (atdL_shut (n := n) (s := sN) (fun h => hu0 (HOP.out.1 h).2))
          clear HOP HTRI HNXT
          go_wp2_with (fail)
          go_roundw
          case rel => exact ⟨k + 1, by go_num, by omega, ⟨byB HBL.out⟩, ⟨by rw [HSH.out]; exact byK HBB.out⟩⟩
          case measure => simp [intOf]; omega
        ·have HSH := Aside0.mk (atdL_shut (n := n) (s := sN) (fun h => hw0 (HOP.out.1 h).1))
         clear HOP HTRI HNXT
         go_wp2_with (fail)
         go_roundw
         case rel => exact ⟨k + 1, by go_num, by omega, ⟨byB HBL.out⟩, ⟨by rw [HSH.out]; exact byK HBB.out⟩⟩
         case measure => simp [intOf]; omega
       ·obtain rfl : k = l0_1.length := by omega
        clear hk hkl
        go_wp2_with (fail)
        have HALL : Aside0 (∀ v, v < n → D.getD v 0 ≠ 1152921504606846976 → atdB l0_1 l2 D sN l0_1.length v = true) := ⟨fun v hv h => atdB_all HDS.out HDD.out hv h⟩
        have HRNG : Aside0 (∀ v, v < n → 0 ≤ D.getD v 0) := ⟨fun v hv => (HDD.out.rng v hv).1⟩
        clear d1
        obtain ⟨wz, hwz⟩ : ∃ q, q = wr := ⟨_, rfl⟩
        subst hwz
        go_loopw [16] (fun i wq => ∃ k : Nat, i = .int .i64 (k : Int) ∧ k ≤ n ∧ Aside0 (Below wz.heap.size wz wq)) (fun i _ => n - (intOf i).toNat)
        case atStart => exact ⟨0, rfl, Nat.zero_le _, ⟨Below.refl _ _⟩⟩
        case round =>
         obtain ⟨v, rfl, hv, HBQ⟩ := hrel
         have d0 := (blk_cell (blk_below HBKr.out HBQ.out) 0).trans rfl
         by_cases hvn : v < n
         ·rcases cells_of_C (Kd.C_below HDR.out HBQ.out) with ⟨hz, _⟩ | ⟨_, ab', ao', hA, hce⟩
          ·omega
          injection hA with e1
          injection e1 with e1 e2 _
          subst e1 e2
          have hcv := hce v (by have := HDL.out; omega)
          have hcb := (blk_cell (blk_below HBB.out HBQ.out) v).trans (show _ = some (Value.bool (atdB l0_1 l2 D sN l0_1.length v)) by simp [atdL_at hvn])
          have h0 := HRNG.out v hvn
          have HA := Aside0.mk (HALL.out v hvn)
          generalize D.getD v 0 = yv at hcv h0 HA
          generalize atdB l0_1 l2 D sN l0_1.length v = x at hcb HA
          clear hce
          by_cases hi : yv = 1152921504606846976
          ·subst hi
           cases x with
           | true =>
            go_wp2_with (fail)
            go_roundw
            case rel => exact ⟨v + 1, by go_num, by omega, ⟨byB HBQ.out⟩⟩
            case measure => simp [intOf]; omega
           | false =>
            go_wp2_with (fail)
            go_roundw
            case rel => exact ⟨v + 1, by go_num, by omega, ⟨byB HBQ.out⟩⟩
            case measure => simp [intOf]; omega
          ·obtain rfl := HA.out hi
           clear HA
           go_wp2_with (fail)
           go_roundw
           case rel => exact ⟨v + 1, by go_num, by omega, ⟨byB HBQ.out⟩⟩
           case measure => simp [intOf]; omega
         ·have HBX := Aside0.mk (below_then (below_then HB.out HB.out.size HBL.out) (below_then HB.out HB.out.size HBL.out).size HBQ.out)
          go_wp2_with (fail)
          refine (mapmakerlaw43_lives.calls _).mono ?_
          rintro e wl ⟨rfl, hbl⟩
          replace HBX := Aside0.mk (below_then HBX.out HBX.out.size hbl)
          clear hbl
          go_wp2
          go_ret
          exact ⟨rfl, HBX.out⟩
    ·go_wp2_with (fail)
     refine (mapmakerlaw43_lives.calls _).mono ?_
     rintro e wl ⟨rfl, hbl⟩
     replace HB := Aside0.mk (below_then HB.out HB.out.size hbl)
     clear hbl
     go_wp2
     go_ret
     exact ⟨rfl, HB.out⟩
   ·go_wp2_with (fail)
    refine (mapmakerlaw43_lives.calls _).mono ?_
    rintro e wl ⟨rfl, hbl⟩
    replace HB := Aside0.mk (below_then HB.out HB.out.size hbl)
    clear hbl
    go_wp2
    go_ret
    exact ⟨rfl, HB.out⟩
  ·go_wp2_with (fail)
   refine (mapmakerlaw43_lives.calls _).mono ?_
   rintro e wl ⟨rfl, hbl⟩
   replace HB := Aside0.mk (below_then HB.out HB.out.size hbl)
   clear hbl
   go_wp2
   go_ret
   exact ⟨rfl, HB.out⟩
end Go.Proofs.Ytfnophaiamkmpaa.Print
