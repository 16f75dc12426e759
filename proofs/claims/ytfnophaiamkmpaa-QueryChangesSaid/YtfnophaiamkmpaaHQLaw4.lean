import Derived.Test.YtfnophaiamkmpaaM32
namespace Go.Proofs.Ytfnophaiamkmpaa.Print
open Go.RowKit Go.Proofs.YtfnophaiamkmpaaW.PrintWords Go.Proofs.YtfnophaiamkmpaaW.PrintLast Go.Proofs.YtfnophaiamkmpaaW.PrintMore
set_option linter.unusedVariables false
set_option linter.unusedSimpArgs false
def mapmakerlaw42_QueryChanges.f (a0_0 : Int) (l0_1 : List S58) (l0_2 : List Int) (l0_3 : List Int) (l1 : List Int) (a2 : Int) : Option Bool := some true
set_option maxHeartbeats 12800000 in
set_option maxRecDepth 100000 in
theorem mapmakerlaw42_QueryChanges.calls (a0_0 : Int) (A0_1 : Option Addr) (c0_1 : Nat) (l0_1 : List S58) (A0_2 : Option Addr) (c0_2 : Nat) (l0_2 : List Int) (A0_3 : Option Addr) (c0_3 : Nat) (l0_3 : List Int) (A1 : Option Addr) (cV : Nat) (l1 : List Int) (a2 : Int) (r : Bool) (w : World) (hr0_1 : Kd.C k58 w A0_1 l0_1.length l0_1) (hc0_1 : l0_1.length ≤ c0_1) (hr0_2 : Kd.C (Kd.int .i64) w A0_2 l0_2.length l0_2) (hc0_2 : l0_2.length ≤ c0_2) (hr0_3 : Kd.C (Kd.int .i64) w A0_3 l0_3.length l0_3) (hc0_3 : l0_3.length ≤ c0_3) (hr1 : Kd.C (Kd.int .i64) w A1 l1.length l1) (hc1 : l1.length ≤ cV) (h : mapmakerlaw42_QueryChanges.f a0_0 l0_1 l0_2 l0_3 l1 a2 = some r) :
  Calls Try.prog 9 #[.agg #[.int .i64 a0_0, .slice A0_1 l0_1.length c0_1, .slice A0_2 l0_2.length c0_2, .slice A0_3 l0_3.length c0_3], .slice A1 l1.length cV, .int .i64 a2] w fun e w' => e = .returned (.bool r) ∧ Below w.heap.size w w' := by
 injection h with h
 subst h
 obtain ⟨kv, fb, hfb, hfw⟩ := valid42 a0_0 l0_1 l0_2 l0_3
 have HFB := Aside0.mk hfb
 have HFW := Aside0.mk hfw
 have HG := Aside0.mk hr0_1
 have HL := Aside0.mk hr0_2
 have HW := Aside0.mk hr0_3
 have HGC := Aside0.mk hc0_1
 have HLC := Aside0.mk hc0_2
 have HWC := Aside0.mk hc0_3
 have HV := Aside0.mk hr1
 have HVC := Aside0.mk hc1
 clear hr1 hc1 hr0_1 hr0_2 hr0_3 hc0_1 hc0_2 hc0_3 hfb hfw
 go_enter Try.func9, Try.ntmps9
 go_wp2_with (fail)
 have HBK := Aside0.mk (heap_alloc_new w (Obj.cells #[.int .i64 a0_0, .slice A0_1 l0_1.length c0_1, .slice A0_2 l0_2.length c0_2, .slice A0_3 l0_3.length c0_3] 27))
 have HBE : Below w.heap.size w (w.alloc (Obj.cells #[.int .i64 a0_0, .slice A0_1 l0_1.length c0_1, .slice A0_2 l0_2.length c0_2, .slice A0_3 l0_3.length c0_3] 27)) := (Below.refl _ _).alloc (Nat.le_refl _) _
 replace HG := Aside0.mk (Kd.C_below HG.out HBE)
 replace HL := Aside0.mk (Kd.C_below HL.out HBE)
 replace HW := Aside0.mk (Kd.C_below HW.out HBE)
 replace HV := Aside0.mk (Kd.C_below HV.out HBE)
 have HB := Aside0.mk HBE
 generalize w.alloc (Obj.cells #[.int .i64 a0_0, .slice A0_1 l0_1.length c0_1, .slice A0_2 l0_2.length c0_2, .slice A0_3 l0_3.length c0_3] 27) = w1 at HBK HG HL HW HV HB ⊢
 clear HBE
 refine (mapmakerlaw42_valid.calls kv a0_0 A0_1 c0_1 l0_1 A0_2 c0_2 l0_2 A0_3 c0_3 l0_3 fb w1 HG.out HGC.out HL.out HLC.out HW.out HWC.out HFB.out).mono ?_
 rintro e w2 ⟨rfl, hb2⟩
 replace HBK := Aside0.mk (blk_below HBK.out hb2)
 replace HV := Aside0.mk (Kd.C_below HV.out hb2)
 replace HG := Aside0.mk (Kd.C_below HG.out hb2)
 replace HL := Aside0.mk (Kd.C_below HL.out hb2)
 replace HW := Aside0.mk (Kd.C_below HW.out hb2)
 replace HB := Aside0.mk (below_then HB.out HB.out.size hb2)
 clear hb2
 cases fb with
 | false =>
  clear HFW
  go_wp2_with (fail)
  refine (mapmakerlaw42_lives.calls _).mono ?_
  rintro e wl ⟨rfl, hbl⟩
  replace HB := Aside0.mk (below_then HB.out HB.out.size hbl)
  clear hbl
  go_wp2
  go_ret
  exact ⟨rfl, HB.out⟩
 | true =>
  obtain ⟨n, rfl, ho⟩ := HFW.out rfl
  have HO := Aside0.mk ho
  clear ho HFW HFB
  by_cases hlen : l1.length = l0_3.length
  rotate_left
  ·have c3 := (blk_cell HBK.out 3).trans rfl
   go_wp2_with (fail)
   refine (mapmakerlaw42_lives.calls _).mono ?_
   rintro e wl ⟨rfl, hbl⟩
   replace HB := Aside0.mk (below_then HB.out HB.out.size hbl)
   clear hbl
   go_wp2
   go_ret
   exact ⟨rfl, HB.out⟩
  have HLN := Aside0.mk hlen
  clear hlen
  have HWLN := Aside0.mk HO.out.len.2
  have hal := HO.out.al
  obtain ⟨kc, hkc⟩ := refchk_ev (n : Int) l0_1 l1 (by omega) (by rw [HLN.out, HWLN.out]; omega)
  have HKC := Aside0.mk (hkc kc (Nat.le_refl _))
  clear hkc
  have c0 := (blk_cell HBK.out 0).trans rfl
  have c1 := (blk_cell HBK.out 1).trans rfl
  have c2 := (blk_cell HBK.out 2).trans rfl
  have c3 := (blk_cell HBK.out 3).trans rfl
  obtain ⟨ce, HCE⟩ : ∃ ce, Aside0 (dchk (n : Int) l0_1 l1 = ce) := ⟨_, ⟨rfl⟩⟩
  rw [HCE.out] at HKC
  obtain ⟨m, HME⟩ : ∃ m, Aside0 (l1.length = m) := ⟨_, ⟨rfl⟩⟩
  have HLM : Aside0 (l0_3.length = m) := ⟨by rw [← HLN.out]; exact HME.out⟩
  rw [HME.out]
  rw [HLM.out] at c3 ⊢
  go_wp2_with (fail)
  have HCC := mapmakerref38_Check.calls kc (n : Int) A0_1 c0_1 l0_1 A1 cV l1 ce _ HG.out HGC.out HV.out HVC.out HKC.out
  rw [HME.out] at HCC
  refine HCC.mono ?_
  rintro e w3 ⟨rfl, hb3⟩
  replace HBK := Aside0.mk (blk_below HBK.out hb3)
  replace HG := Aside0.mk (Kd.C_below HG.out hb3)
  replace HL := Aside0.mk (Kd.C_below HL.out hb3)
  replace HW := Aside0.mk (Kd.C_below HW.out hb3)
  replace HB := Aside0.mk (below_then HB.out HB.out.size hb3)
  replace HV := Aside0.mk (Kd.C_below HV.out hb3)
  clear hb3 c0 c1 c2 c3 HCC
  have c0 := (blk_cell HBK.out 0).trans rfl
  have c1 := (blk_cell HBK.out 1).trans rfl
  have c2 := (blk_cell HBK.out 2).trans rfl
  have c3 := (blk_cell HBK.out 3).trans rfl
  rw [HLM.out] at c3
  by_cases hce : ce = 0
  rotate_left
  ·clear HCE HKC
   go_wp2_with (fail)
   refine (mapmakerlaw42_lives.calls _).mono ?_
   rintro e wl ⟨rfl, hbl⟩
   replace HB := Aside0.mk (below_then HB.out HB.out.size hbl)
   clear hbl
   go_wp2
   go_ret
   exact ⟨rfl, HB.out⟩
  subst hce
  by_cases hs0 : 0 ≤ a2
  rotate_left
  ·go_wp2_with (fail)
   refine (mapmakerlaw42_lives.calls _).mono ?_
   rintro e wl ⟨rfl, hbl⟩
   replace HB := Aside0.mk (below_then HB.out HB.out.size hbl)
   clear hbl
   go_wp2
   go_ret
   exact ⟨rfl, HB.out⟩
  obtain ⟨s, rfl⟩ := Int.eq_ofNat_of_zero_le hs0
  by_cases hsn : s < n
  rotate_left
  ·go_wp2_with (fail)
   refine (mapmakerlaw42_lives.calls _).mono ?_
   rintro e wl ⟨rfl, hbl⟩
   replace HB := Aside0.mk (below_then HB.out HB.out.size hbl)
   clear hbl
   go_wp2
   go_ret
   exact ⟨rfl, HB.out⟩
  have HMT := law42_metric.callsB HG.out HGC.out HL.out HLC.out HW.out HWC.out HO.out
  rw [HLM.out] at HMT
  have HMTC := Aside0.mk HMT
  clear HMT
  go_wp2_with (fail)
  refine HMTC.out.mono ?_
  rintro e w4 ⟨hb4, q, p, rfl, hM⟩
  have HM := Aside0.mk hM
  have hpc := HO.out.pc q p
  have hw3 : w.heap.size ≤ w3.heap.size := HB.out.size
  have HBO := Aside0.mk hb4
  have HV0 := HV
  have HG0 := HG
  have HBK3 := HBK
  have hlt3 := hblk_lt HBK.out
  replace HBK := Aside0.mk (blk_below HBK.out hb4)
  replace HG := Aside0.mk (Kd.C_below HG.out hb4)
  replace HL := Aside0.mk (Kd.C_below HL.out hb4)
  replace HW := Aside0.mk (Kd.C_below HW.out hb4)
  replace HB := Aside0.mk (below_then HB.out HB.out.size hb4)
  replace HV := Aside0.mk (Kd.C_below HV.out hb4)
  clear hM hb4 c0 c1 c2 c3 HMTC
  go_wp2_with (fail)
  have hm40 : m ≤ 40 := by have h1 := HLM.out; have h2 := HWLN.out; have h3 := HO.out.al; omega
  go_loopw [8, 9] (fun a i wr => ∃ (k : Nat) (A : Option Addr) (c : Nat), a = .slice A (idx k).length c ∧ i = .int .i64 (k : Int) ∧ k ≤ m ∧ Aside0 (Below w4.heap.size w4 wr) ∧ Aside0 (Kd.R (Kd.int .i64) 3 wr w4.heap.size (fun _ => True) (.slice A (idx k).length c) (idx k))) (fun _ i _ => m - (intOf i).toNat)
  case atStart => exact ⟨0, none, 0, rfl, rfl, Nat.zero_le _, ⟨Below.refl _ _⟩, ⟨Kd.R_nil _ _ _ _ _⟩⟩
  case round =>
   obtain ⟨k, A, c, rfl, rfl, hk, HBL, HA⟩ := hrel
   by_cases hkl : k < m
   ·have hil := idx_len k
    go_wp2_with (
     refine Kd.R_append (Kd.int .i64) (w0 := w4) w4.heap.size (by rfl) (.tmp 57) (.tmp 59) 25 3 (.int .i64 0) 8 rfl Try.underlying25 info3 rfl (by decide) (by omega) (.slice A (idx k).length c) (idx k) (k : Int) [.int .i64 (k : Int)] (fun _ => True) (fun _ => False) rfl rfl ?aP (fun _ hk => hk.elim) ?aF ?aO ?aB ?aS ?aL ?_
     (case aP => exact rfl)
     (case aF => exact (fun _ _ => trivial))
     (case aO => exact Kd.R_mono HA.out (fun _ _ => trivial))
     (case aB => exact HBL.out)
     (case aS => exact HBL.out.size)
     (case aL => omega)
     intro v9 w9 ho hb hg hat
     have HO9 := Aside0.mk ho
     have HB9 := Aside0.mk hb
     clear ho hb hg hat)
    rw [idx_succ] at HO9
    obtain ⟨A9, c9, rfl⟩ := Kd.R_slice HO9.out
    go_roundw
    case rel => exact ⟨k + 1, A9, c9, rfl, by go_num, by omega, HB9, HO9⟩
    case measure => simp [intOf]; omega
   ·obtain rfl : m = k := by omega
    have HB34 := Aside0.mk (below_then HBO.out HBO.out.size HBL.out)
    have HSA : ∀ W', Bel (Bet w3.heap.size w4.heap.size) wr W' → Kd.C (Kd.int .i64) W' A (idx m).length (idx m) := fun W' hW => (Kd.R_reads' (Kd.R_move (Kd.R_bound HA.out) (w1 := W') (fun k hk => hW.block k hk.2.2.1 (fun hT => by have h1 := hT.2; have h2 := hk.2.1; omega)))).2.2
    have HSV : ∀ W', Bel (Bet w3.heap.size w4.heap.size) wr W' → Kd.C (Kd.int .i64) W' A1 l1.length l1 := fun W' hW => Kd.C_below HV0.out (bChain HB34.out (hW.out HB34.out.size (fun k hk => hk.1)))
    have hset := set_idx (ws := l0_3) (vs := l1) HLM.out HME.out (dchk_ok HCE.out).2.2
    have HSP := Aside0.mk hset.1
    have HSW := Aside0.mk hset.2
    have HM2 := HM.out.below HBL.out
    replace HB := Aside0.mk (below_then HB.out HB.out.size HBL.out)
    have hil := idx_len m
    have hn12 := HO.out.hn
    clear hset HA
    generalize idx m = al at HSA HSP HSW hil ⊢
    have HSC := Metric_Set.of (ac := c) (vc := cV) HO.out.hk (by omega) HM2 (by have := HO.out.al; omega) HO.out.len.2 HSA HSV (by omega)
    rw [HME.out, HSP.out, HSW.out] at HSC
    have HSC2 := Aside0.mk HSC
    clear HSC HSA HSV HM2 HM hpc hil
    go_wp2_with (fail)
    refine HSC2.out.mono ?_
    rintro e w6 ⟨hB6, (⟨hp, _, _⟩ | ⟨_, rfl, hM6⟩)⟩
    ·exact absurd rfl hp
    have h46 := hB6.old HB34.out.size
    have HB36 := Aside0.mk (bChain HB34.out h46)
    replace HB := Aside0.mk (bChain HB.out (bTo h46 hw3))
    replace HBK := Aside0.mk ((HB36.out.block w.heap.size hlt3).trans HBK3.out)
    replace HG := Aside0.mk (Kd.C_below HG0.out HB36.out)
    replace HV := Aside0.mk (Kd.C_below HV0.out HB36.out)
    have HM := Aside0.mk hM6.met
    have hO1 : NetOk n l0_1 l0_2 l1 := ⟨HO.out.hk, HCE.out, HO.out.hn, HO.out.al⟩
    have HO1 := Aside0.mk hO1
    have hpc1 := hO1.pc q p
    obtain ⟨dd, hd, kf, hkf⟩ := dist_ev (n := n) (arcs := l0_1) (ws := l1) (s := s) hsn HO.out.hk.arcEnds (by omega) (by have := HO.out.al; omega) hpc1.wl hpc1.wr HCE.out
    have HKF := Aside0.mk (hkf kf (Nat.le_refl _))
    have HDD := Aside0.mk hd
    have HDL := Aside0.mk hd.len
    generalize diffN (sdS n l0_1 l0_2 l0_3).1 (sdS n l0_1 l0_2 l0_3).2 (sdS n l0_1 l0_2 l1).1 (sdS n l0_1 l0_2 l1).2 (hierS n l0_1 l0_2).edges.length = N
    clear hB6 h46 hM6 HSC2 HSP HSW HBL HB34 HB36 HBO hO1 hkf hd HKC HO HL HW HLN HWLN HLM
    have c0 := (blk_cell HBK.out 0).trans rfl
    have c1 := (blk_cell HBK.out 1).trans rfl
    have c2 := (blk_cell HBK.out 2).trans rfl
    have c3 := (blk_cell HBK.out 3).trans rfl
    have HFC := mapmakerref38_From.calls kf (n : Int) A0_1 c0_1 l0_1 A1 cV l1 (s : Int) dd 0 w6 HG.out HGC.out HV.out HVC.out HKF.out
    rw [HME.out] at HFC
    have HFC2 := Aside0.mk HFC
    clear HFC HKF
    go_wp2_with (fail)
    refine HFC2.out.mono ?_
    rintro e w7 ⟨v7, rfl, hr7, hb7⟩
    obtain ⟨dA, dc, rfl, hdc, hdC⟩ := Kd.R_reads hr7
    rw [HDL.out] at hdC ⊢
    have HDC := Aside0.mk hdC
    replace HM := Aside0.mk (HM.out.below hb7)
    replace HBK := Aside0.mk (blk_below HBK.out hb7)
    replace HB := Aside0.mk (below_then HB.out HB.out.size hb7)
    clear hr7 hb7 hdC hdc HFC2 c0 c1 c2 c3
    go_wp2_with (fail)
    go_loopw [14] (fun i wr => ∃ (k : Nat), i = .int .i64 (k : Int) ∧ k ≤ n ∧ Aside0 (Below w7.heap.size w7 wr)) (fun i _ => n - (intOf i).toNat)
    case atStart => exact ⟨0, rfl, Nat.zero_le _, ⟨Below.refl _ _⟩⟩
    case round =>
     obtain ⟨k, rfl, hk2, HBL⟩ := hrel
     have HBKr := Aside0.mk (blk_below HBK.out HBL.out)
     have c0 := (blk_cell HBKr.out 0).trans rfl
     have c1 := (blk_cell HBKr.out 1).trans rfl
     have c2 := (blk_cell HBKr.out 2).trans rfl
     have c3 := (blk_cell HBKr.out 3).trans rfl
     by_cases hkn : k < n
     ·have hdc := Kd.C_below HDC.out HBL.out
      obtain ⟨lb, lo, hlA, hlk⟩ := cells_all (show Kd.C (Kd.int .i64) wr dA dd.length dd from by rw [HDL.out]; exact hdc) k (by rw [HDL.out]; exact hkn)
      subst hlA
      have hD := query_Dist.calls HO1.out.hk (by omega) (HM.out.below HBL.out) hpc1.wl hpc1.wr (s : Int) (k : Int)
      have HQ := Aside0.mk hD
      clear hD hdc
      go_wp2_with (fail)
      refine HQ.out.mono ?_
      rintro e w8 ⟨hb8, hcs⟩
      have he : e = .returned (.tuple #[.int .i64 (dd.getD k 0), .int .i64 0]) := by
       rcases hcs with ⟨hv, _⟩ | ⟨x, y, hx, hy, hxs, hyt, hcs⟩
       ·rcases hv with hv | hv
        ·rw [hasV_iff.2 ⟨s, hsn, rfl⟩] at hv
         cases hv
        ·rw [hasV_iff.2 ⟨k, hkn, rfl⟩] at hv
         cases hv
       ·have h1 := HO1.out.hk.meet_dist hpc1.wl hpc1.wr (by omega) hx hy hxs hyt hkn HDD.out
        rcases hcs with ⟨hf, rfl⟩ | ⟨hf, rfl⟩
        ·rw [← h1.1 hf]
         rfl
        ·rw [h1.2 hf]
      subst he
      replace hlk := (hb8.cell (World.block_lt_of_cell? wr _ hlk)).trans hlk
      replace HBL := Aside0.mk (below_then HBL.out HBL.out.size hb8)
      clear hcs hb8 HQ c0 c1 c2 c3
      go_wp2_with (fail)
      go_roundw
      case rel => exact ⟨k + 1, by go_num, by omega, HBL⟩
      case measure => simp [intOf]; omega
     ·obtain rfl : k = n := by omega
      replace HB := Aside0.mk (below_then HB.out HB.out.size HBL.out)
      go_wp2_with (fail)
      refine (mapmakerlaw42_lives.calls _).mono ?_
      rintro e wl ⟨rfl, hbl⟩
      replace HB := Aside0.mk (below_then HB.out HB.out.size hbl)
      clear hbl
      go_wp2
      go_ret
      exact ⟨rfl, HB.out⟩
end Go.Proofs.Ytfnophaiamkmpaa.Print
