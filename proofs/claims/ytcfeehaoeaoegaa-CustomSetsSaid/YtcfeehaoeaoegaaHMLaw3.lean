import Derived.Test.YtcfeehaoeaoegaaM29
import Derived.Test.YtcfeehaoeaoegaaM33
namespace Go.Proofs.Ytcfeehaoeaoegaa.Print
open Go.RowKit Go.Proofs.YtcfeehaoeaoegaaW.PrintWords Go.Proofs.YtcfeehaoeaoegaaW.PrintLast Go.Proofs.YtcfeehaoeaoegaaW.PrintMore
set_option linter.unusedVariables false
set_option linter.unusedSimpArgs false

def mapmakerlaw41_CustomSets.f (a0_0 : Int) (l0_1 : List S38) (l1 l2 : List Int) (l3 : List S73) : Option Bool := some true
set_option maxHeartbeats 12800000 in
set_option maxRecDepth 100000 in
theorem mapmakerlaw41_CustomSets.calls (a0_0 : Int) (A0_1 : Option Addr) (c0_1 : Nat) (l0_1 : List S38) (A1 : Option Addr) (c1 : Nat) (l1 : List Int) (A2 : Option Addr) (c2 : Nat) (l2 : List Int) (A3 : Option Addr) (c3 : Nat) (l3 : List S73) (r : Bool) (w : World) (hr0_1 : Kd.C k38 w A0_1 l0_1.length l0_1) (hc0_1 : l0_1.length ≤ c0_1)
  (hr1 : Kd.C (Kd.int .i64) w A1 l1.length l1) (hc1 : l1.length ≤ c1) (hr2 : Kd.C (Kd.int .i64) w A2 l2.length l2) (hc2 : l2.length ≤ c2) (hr3 : Kd.C k73 w A3 l3.length l3) (hc3 : l3.length ≤ c3) (h : mapmakerlaw41_CustomSets.f a0_0 l0_1 l1 l2 l3 = some r) :
  Calls Try.prog 9 #[.agg #[.int .i64 a0_0, .slice A0_1 l0_1.length c0_1], .slice A1 l1.length c1, .slice A2 l2.length c2, .slice A3 l3.length c3] w fun e w' => e = .returned (.bool r) ∧ Below w.heap.size w w' := by
 injection h with h
 subst h
 obtain ⟨fb, hfb, hfw⟩ := few41 a0_0 l0_1 l2
 have HFB := Aside0.mk hfb
 have HFW := Aside0.mk hfw
 have HG := Aside0.mk hr0_1
 have HL := Aside0.mk hr1
 have HW := Aside0.mk hr2
 have HC3 := Aside0.mk hr3
 have HGC := Aside0.mk hc0_1
 have HLC := Aside0.mk hc1
 have HWC := Aside0.mk hc2
 clear hr0_1 hr1 hr2 hr3 hc0_1 hc1 hc2 hc3 hfb hfw
 go_enter Try.func9, Try.ntmps9
 go_wp2_with (fail)
 have HBK := Aside0.mk (heap_alloc_new w (Obj.cells #[.int .i64 a0_0, .slice A0_1 l0_1.length c0_1] 24))
 have HB : Aside0 (Below w.heap.size w (w.alloc (Obj.cells #[.int .i64 a0_0, .slice A0_1 l0_1.length c0_1] 24))) := ⟨(Below.refl _ _).alloc (Nat.le_refl _) _⟩
 generalize w.alloc (Obj.cells #[.int .i64 a0_0, .slice A0_1 l0_1.length c0_1] 24) = w1 at HBK HB ⊢
 refine (mapmakerlaw41_few.calls a0_0 A0_1 c0_1 l0_1 A2 c2 l2 fb w1 (Kd.C_below HG.out HB.out) HGC.out (Kd.C_below HW.out HB.out) HWC.out HFB.out).mono ?_
 rintro e w2 ⟨rfl, hb2⟩
 replace HBK := Aside0.mk (blk_below HBK.out hb2)
 replace HB := Aside0.mk (below_then HB.out HB.out.size hb2)
 clear hb2
 have LIVES : ∀ wl : World, Aside0 (Below w.heap.size w wl) → Calls Try.prog 35 #[] wl fun e w' => e = .returned (.bool true) ∧ Below w.heap.size w w' := fun wl hb => (mapmakerlaw41_lives.calls wl).mono fun e w' h => ⟨h.1, below_then hb.out hb.out.size h.2⟩
 cases fb with
 | false =>
  go_wp2_with (fail)
  refine (LIVES _ HB).mono ?_
  rintro e w3 ⟨rfl, hb3⟩
  go_wp2
  go_ret
  exact ⟨rfl, hb3⟩
 | true =>
  obtain ⟨hN, hal, hwl⟩ := HFW.out rfl
  by_cases hll : l1.length ≤ 20
  ·by_cases hl6 : l3.length ≤ 6
   ·have hc0 := (blk_cell HBK.out 0).trans rfl
    have hc1 := (blk_cell HBK.out 1).trans rfl
    go_wp2_with (fail)
    refine (law41_Setup.callsB (Kd.C_below HG.out HB.out) HGC.out (Kd.C_below HL.out HB.out) HLC.out (Kd.C_below HW.out HB.out) HWC.out (by omega) (by omega) (by omega) (by omega)).mono ?_
    rintro e w3 ⟨hb3, hcs⟩
    replace HBK := Aside0.mk (blk_below HBK.out hb3)
    obtain ⟨b, HBB⟩ : ∃ x, Aside0 (w2.heap.size = x) := ⟨_, ⟨rfl⟩⟩
    have hb0 : w.heap.size ≤ b := by rw [← HBB.out]; exact HB.out.size
    replace HB := Aside0.mk (below_then HB.out HB.out.size hb3)
    rw [HBB.out] at hcs
    have hbt3 : b ≤ w3.heap.size := by rw [← HBB.out]; exact hb3.size
    clear hb3 hc0 hc1 HBB
    rcases hcs with ⟨_, rfl⟩ | ⟨h0, hd, q, p, rfl, hM⟩
    ·go_wp2_with (fail)
     refine (LIVES _ HB).mono ?_
     rintro e w4 ⟨rfl, hb4⟩
     go_wp2
     go_ret
     exact ⟨rfl, hb4⟩
    ·obtain ⟨n, rfl, hn, hk⟩ := hk_of (by omega) h0
     rw [Int.toNat_natCast] at hM
     have HM := Aside0.mk hM
     have HK := Aside0.mk hk
     have HD := Aside0.mk hd
     have HWL := Aside0.mk (dchk_ok hd).2.1
     have hn1 : n ≤ 10 := by omega
     have hc0 := (blk_cell HBK.out 0).trans rfl
     have hc1 := (blk_cell HBK.out 1).trans rfl
     clear hM hk h0 hn hd
     obtain ⟨t, HTT⟩ : ∃ x, Aside0 (w3.heap.size = x) := ⟨_, ⟨rfl⟩⟩
     rw [HTT.out] at HM hbt3
     go_wp2_with (fail)
     refine (ref41_New.calls (Kd.C_below HG.out HB.out) HGC.out (Kd.C_below HW.out HB.out) HWC.out (by omega) (by omega)).mono ?_
     rintro e w4 ⟨hb4, (⟨_, rfl⟩ | ⟨he, _⟩)⟩
     rotate_left
     ·exact absurd HD.out he
     have ht4 : t ≤ w4.heap.size := by rw [← HTT.out]; exact hb4.size
     replace HM := Aside0.mk (HM.out.below hb4)
     replace HB := Aside0.mk (below_then HB.out HB.out.size hb4)
     clear hb4 hc0 hc1 HTT
     go_wp2_with (fail)
     have hba : Below w4.heap.size w4 (w4.alloc (Obj.cells #[.bool false, .int .i64 (n : Int), .slice A0_1 l0_1.length c0_1, .slice A1 l1.length c1, .slice A2 l2.length c2] 67)) := (Below.refl _ _).alloc (Nat.le_refl _) _
     have HX := Aside0.mk (heap_alloc_new w4 (Obj.cells #[.bool false, .int .i64 (n : Int), .slice A0_1 l0_1.length c0_1, .slice A1 l1.length c1, .slice A2 l2.length c2] 67))
     replace HM := Aside0.mk (HM.out.below hba)
     replace HB := Aside0.mk (below_then HB.out HB.out.size hba)
     clear hba
     generalize w4.alloc (Obj.cells #[.bool false, .int .i64 (n : Int), .slice A0_1 l0_1.length c0_1, .slice A1 l1.length c1, .slice A2 l2.length c2] 67) = w5 at HM HB HX ⊢
     have hbx0 : w.heap.size ≤ w4.heap.size := Nat.le_trans hb0 (Nat.le_trans hbt3 ht4)
     generalize w4.heap.size = bx at HX ht4 hbx0 ⊢
     have HS : Aside0 (St (fun k => Bet b t k ∨ k = bx) w5 A2 l2) := ⟨St.of HW.out HB.out (fun k hk => by
      rcases hk with hk | rfl
      ·exact Nat.le_trans hb0 hk.1
      ·exact hbx0)⟩
     go_loopw [13] (fun i wr => ∃ (k : Nat) (ws : List Int) (A : Option Addr) (c : Nat), i = .int .i64 (k : Int) ∧ k ≤ l3.length ∧ Aside0 (Below w.heap.size w wr) ∧ Aside0 (wr.heap[bx]? = some (.cells #[.bool false, .int .i64 (n : Int), .slice A0_1 l0_1.length c0_1, .slice A1 l1.length c1, .slice A ws.length c] 67 (0, 0))) ∧ Aside0 (MetB wr b t q p n l0_1 l1 ws) ∧ Aside0 (St (fun k => Bet b t k ∨ k = bx) wr A ws) ∧ Aside0 (ws.length ≤ c) ∧ Aside0 (ws.length = l0_1.length)) (fun i _ => l3.length - (intOf i).toNat)
     case atStart => exact ⟨0, l2, A2, c2, rfl, Nat.zero_le _, HB, HX, HM, HS, HWC, HWL⟩
     case round =>
      clear HB HX HM HS HBK
      obtain ⟨k, ws, A, c, rfl, hk, HB, HX, HM, HS, HCC, HWS⟩ := hrel
      by_cases hkl : k < l3.length
      ·obtain ⟨ae, B0, d0, B1, d1, hA2, hx0, hx1, hl0, hC0, hl1, hC1⟩ := at_T73 HC3.out (k : Int) (by omega) (by omega)
       obtain ⟨ae2, _, _, _, _, hA3, hz0, _⟩ := at_T73 HC3.out 0 (by omega) (by omega)
       obtain rfl : ae2 = ae := Option.some.inj (hA3.symm.trans hA2)
       have hsp := spot_of_cell (ad := ae2) (by exact hz0)
       obtain ⟨ab, ao, asb⟩ := ae2
       injection hsp with hz1 hz2 hes
       clear hz1 hz2 hz0 hA3
       subst hes
       simp only [Addr.add_lit, Int.toNat_natCast] at hx0 hx1
       obtain ⟨al, HAL⟩ : ∃ x, Aside0 ((rd_T73 l3 (k : Int)).f0 = x) := ⟨_, ⟨rfl⟩⟩
       obtain ⟨vs, HVS⟩ : ∃ x, Aside0 ((rd_T73 l3 (k : Int)).f1 = x) := ⟨_, ⟨rfl⟩⟩
       rw [HAL.out] at hx0 hC0 hl0
       rw [HVS.out] at hx1 hC1 hl1
       subst hA2
       have HA0 := Aside0.mk hC0
       have HA1 := Aside0.mk hC1
       have HX0 := Aside0.mk hx0
       have HX1 := Aside0.mk hx1
       clear hC0 hC1 hl0 hl1 hx0 hx1
       have hc0 := pw_cell_below HB.out HX0.out
       have hc1 := pw_cell_below HB.out HX1.out
       by_cases ha30 : al.length ≤ 30
       ·by_cases hv30 : vs.length ≤ 30
        ·go_upto_region 12 with (fail)
         refine s_ (fun w' => w'.cell? ⟨ab, ao + k * 2, none⟩ = some (.slice B0 al.length d0) ∧ w'.cell? ⟨ab, ao + k * 2 + 1, none⟩ = some (.slice B1 vs.length d1)) [] ⟨hc0, hc1⟩ (fun hHeld => ?_)
         have hbd : Below wr.heap.size wr wr.drew := below_drew (Below.refl _ _)
         replace HB := Aside0.mk (below_then HB.out HB.out.size hbd)
         replace HX := Aside0.mk (blk_below HX.out hbd)
         replace HM := Aside0.mk (HM.out.below hbd)
         replace HS := Aside0.mk (HS.out.below hbd)
         generalize wr.drew = wd at HB HX HM HS hHeld ⊢
         clear hc0 hc1 hbd
         refine p_ 0 75 ?_
         refine p_ 1 76 ?_
         refine p_ 2 77 ?_
         refine p_ 3 78 ?_
         refine p_ 4 79 ?_
         refine t2_ 5 80 hHeld ?_
         refine p_ 6 81 ?_
         refine p_ 7 82 ?_
         refine p_ 8 83 ?_
         refine p_ 9 84 ?_
         refine t2_ 10 85 hHeld ?_
         refine o_ 11 86 (fun K hK => ?_)
         refine goes_ Try.func43 (by kernel_rfl) rfl #[.pointer (some ⟨q, 0, none⟩), .slice B0 al.length d0, .slice B1 vs.length d1] (by rfl) rfl rfl byL ?_
         have hold : ∀ W', Bel (Bet b t) wd W' → Below w.heap.size w W' := fun W' hW => bChain HB.out (hW.out HB.out.size (fun k hk => Nat.le_trans hb0 hk.1))
         refine (Metric_Set.uni HK.out (by omega) HM.out (by omega) HWS.out (fun W' hW => Kd.C_below HA0.out (hold W' hW)) (fun W' hW => Kd.C_below HA1.out (hold W' hW)) (by omega)).mono ?_
         rintro e w6 ⟨hB6, rfl, hM6⟩
         refine ⟨_, rfl, ?_⟩
         replace HB := Aside0.mk (hold w6 hB6)
         have hbxl : bx < wd.heap.size := hblk_lt HX.out
         replace HX := Aside0.mk ((hB6.block bx hbxl (fun hk => by have := hk.2; omega)).trans HX.out)
         replace HM := Aside0.mk hM6
         replace HS := Aside0.mk (HS.out.bel ((Bel.refl _ _).trans hB6 (fun k _ hk => .inl hk)))
         refine hK.out _ _ ⟨pw_cell_below HB.out HX0.out, pw_cell_below HB.out HX1.out⟩ (fun hHeld => ?_)
         clear hK K hB6 hM6 hold hbxl
         refine n_ 86 ?_
         refine p_ 12 74 ?_
         refine p_ 13 87 ?_
         refine p_ 14 88 ?_
         refine p_ 15 14 ?_
         refine p_ 16 15 ?_
         refine d_ ?_
         clear hHeld
         go_upto_region 13 with (fail)
         have x0 := (blk_cell HX.out 0).trans rfl
         have x1 := (blk_cell HX.out 1).trans rfl
         have x2 := (blk_cell HX.out 2).trans rfl
         have x3 := (blk_cell HX.out 3).trans rfl
         have x4 := (blk_cell HX.out 4).trans rfl
         refine s_ (fun w' => (w'.cell? ⟨bx, 0, none⟩ = some (.bool false) ∧ w'.cell? ⟨bx, 1, none⟩ = some (.int .i64 (n : Int)) ∧ w'.cell? ⟨bx, 2, none⟩ = some (.slice A0_1 l0_1.length c0_1) ∧ w'.cell? ⟨bx, 3, none⟩ = some (.slice A1 l1.length c1) ∧ w'.cell? ⟨bx, 4, none⟩ = some (.slice A ws.length c)) ∧ w'.cell? ⟨ab, ao + k * 2, none⟩ = some (.slice B0 al.length d0) ∧ w'.cell? ⟨ab, ao + k * 2 + 1, none⟩ = some (.slice B1 vs.length d1)) [17] ⟨⟨x0, x1, x2, x3, x4⟩, pw_cell_below HB.out HX0.out, pw_cell_below HB.out HX1.out⟩ (fun hHeld => ?_)
         have hbd : Below w6.heap.size w6 w6.drew := below_drew (Below.refl _ _)
         replace HB := Aside0.mk (below_then HB.out HB.out.size hbd)
         replace HX := Aside0.mk (blk_below HX.out hbd)
         replace HM := Aside0.mk (HM.out.below hbd)
         replace HS := Aside0.mk (HS.out.below hbd)
         generalize w6.drew = w7 at HB HX HM HS hHeld ⊢
         clear x0 x1 x2 x3 x4 hbd
         refine t3_ 0 90 hHeld ?_ (hy := Or.inl ⟨by rfl, by rintro w' ⟨⟨s0, s1, s2, s3, s4⟩, s5, s6⟩; go_simp; with_reducible rfl⟩)
         refine p_ 1 91 ?_
         refine p_ 2 92 ?_
         refine p_ 3 93 ?_
         refine p_ 4 94 ?_
         refine t3_ 5 95 hHeld ?_
         refine p_ 6 96 ?_
         refine p_ 7 97 ?_
         refine p_ 8 98 ?_
         refine p_ 9 99 ?_
         refine t3_ 10 100 hHeld ?_
         have hS : ∀ w', Below w7.heap.size w7 w' → (w'.cell? ⟨bx, 0, none⟩ = some (.bool false) ∧ w'.cell? ⟨bx, 1, none⟩ = some (.int .i64 (n : Int)) ∧ w'.cell? ⟨bx, 2, none⟩ = some (.slice A0_1 l0_1.length c0_1) ∧ w'.cell? ⟨bx, 3, none⟩ = some (.slice A1 l1.length c1) ∧ w'.cell? ⟨bx, 4, none⟩ = some (.slice A ws.length c)) ∧ w'.cell? ⟨ab, ao + k * 2, none⟩ = some (.slice B0 al.length d0) ∧ w'.cell? ⟨ab, ao + k * 2 + 1, none⟩ = some (.slice B1 vs.length d1) := fun w' hb => ⟨⟨pw_cell_below hb hHeld.1.1, pw_cell_below hb hHeld.1.2.1, pw_cell_below hb hHeld.1.2.2.1, pw_cell_below hb hHeld.1.2.2.2.1, pw_cell_below hb hHeld.1.2.2.2.2⟩, pw_cell_below hb hHeld.2.1, pw_cell_below hb hHeld.2.2⟩
         have hba : Below w7.heap.size w7 (w7.alloc (Obj.cells #[.bool false, .int .i64 0, .slice none 0 0, .slice none 0 0, .slice none 0 0] 67)) := (Below.refl _ _).alloc (Nat.le_refl _) _
         have htx : ∀ k, (Bet b t k ∨ k = bx) → k < w7.heap.size := fun k hk => by
          have h1 := hblk_lt HX.out
          have h2 := HM.out.base.2
          rcases hk with hk | rfl
          ·exact Nat.lt_of_lt_of_le hk.2 h2
          ·exact h1
         have HXL := Aside0.mk (hblk_lt HX.out)
         have HT7 := Aside0.mk HM.out.base.2
         refine mid_ (fun a (A' : Option Addr) (c' b16 : Nat) => ((((((a.put (some 101) (.tuple #[.agg #[.bool false, .int .i64 (n : Int), .slice A0_1 l0_1.length c0_1, .slice A1 l1.length c1, .slice A' (setW ws al vs).length c'], .int .i64 (setN n l0_1 l1 ws al vs), .int .i64 (permC (ws.length : Int) al vs)])).put (some 89) (.tuple #[.agg #[.bool false, .int .i64 (n : Int), .slice A0_1 l0_1.length c0_1, .slice A1 l1.length c1, .slice A' (setW ws al vs).length c'], .int .i64 (setN n l0_1 l1 ws al vs), .int .i64 (permC (ws.length : Int) al vs)])).put (some 102) (.agg #[.bool false, .int .i64 (n : Int), .slice A0_1 l0_1.length c0_1, .slice A1 l1.length c1, .slice A' (setW ws al vs).length c'])).put (some 103) (.int .i64 (setN n l0_1 l1 ws al vs))).put (some 104) (.int .i64 (permC (ws.length : Int) al vs))).put (some 16) (.pointer (some ⟨b16, 0, none⟩)))) 131071 3 (fun A' c' b16 w' => Aside0 (Below w7.heap.size w7 w') ∧ Aside0 (w7.heap.size ≤ b16) ∧ Aside0 (w'.heap[b16]? = some (.cells #[.bool false, .int .i64 0, .slice none 0 0, .slice none 0 0, .slice none 0 0] 67 (0, 0))) ∧ Aside0 (St (fun k => (Bet b t k ∨ k = bx) ∨ k = b16) w' A' (setW ws al vs)) ∧ Aside0 ((setW ws al vs).length ≤ c')) ?_ (fun HK1 => ?_)
         rotate_left
         ·refine ready_ (rs := [11, 16]) (by kernel_rfl) (by decide) ?_
          refine m_ 11 101 (fun K hK => ?_) (m_ 16 16 (fun K hK => ?_) AllReadyL.nil)
          ·refine goes_ Try.func44 (by kernel_rfl) rfl #[.agg #[.bool false, .int .i64 (n : Int), .slice A0_1 l0_1.length c0_1, .slice A1 l1.length c1, .slice A ws.length c], .slice B0 al.length d0, .slice B1 vs.length d1] (by rfl) rfl rfl byL ?_
           refine (ref41_Set.uni HK.out (by omega) (Kd.C_below HG.out HB.out) HGC.out (Kd.C_below HL.out HB.out) HLC.out HS.out HCC.out htx (Kd.C_below HA0.out HB.out) (Kd.C_below HA1.out HB.out) (by omega) HWS.out (by omega) (by omega)).mono ?_
           rintro e w8 ⟨hb8, A', c', rfl, hs8, hc8⟩
           refine ⟨_, rfl, ?_⟩
           refine hK.out _ _ (hS _ hb8) (fun hHeld => ?_)
           clear hK K
           refine n_ 101 ?_
           refine p_ 12 89 ?_
           refine p_ 13 102 ?_
           refine p_ 14 103 ?_
           refine p_ 15 104 ?_
           refine o_ 16 16 (fun K hK => ?_)
           refine value_ (w1 := ?_) (v := ?_) (by rfl) rfl ?_ ?_; rotate_left 2; (·go_simp; constructor; (·rfl); (·rfl))
           have hb9 : Below w8.heap.size w8 (w8.alloc (Obj.cells #[.bool false, .int .i64 0, .slice none 0 0, .slice none 0 0, .slice none 0 0] 67)) := (Below.refl _ _).alloc (Nat.le_refl _) _
           have hb10 := below_then hb8 hb8.size hb9
           refine hK.out _ _ (hS _ hb10) (fun hHeld => ?_)
           refine at_ (HK1 A' c' w8.heap.size _ ⟨⟨hb10⟩, ⟨hb8.size⟩, ⟨heap_alloc_new w8 _⟩, ⟨fun W' hW => hs8 W' (((Bel.refl _ _).below hb9).trans hW (fun k hk1 hk => hk.elim id (fun h => by omega)))⟩, ⟨hc8⟩⟩ hHeld)
          ·refine value_ (w1 := ?_) (v := ?_) (by rfl) rfl ?_ ?_; rotate_left 2; (·go_simp; constructor; (·rfl); (·rfl))
           refine hK.out _ _ (hS _ hba) (fun hHeld => ?_)
           clear hK K
           have HB8 := Aside0.mk (below_then HB.out HB.out.size hba)
           have hsz : (w7.alloc (Obj.cells #[.bool false, .int .i64 0, .slice none 0 0, .slice none 0 0, .slice none 0 0] 67)).heap.size = w7.heap.size + 1 := World.size_alloc ..
           have HY8 := Aside0.mk (heap_alloc_new w7 (Obj.cells #[.bool false, .int .i64 0, .slice none 0 0, .slice none 0 0, .slice none 0 0] 67))
           have HS8 : Aside0 (St (fun k => (Bet b t k ∨ k = bx) ∨ k = w7.heap.size) (w7.alloc (Obj.cells #[.bool false, .int .i64 0, .slice none 0 0, .slice none 0 0, .slice none 0 0] 67)) A ws) := ⟨fun W' hW => HS.out W' (((Bel.refl _ _).below hba).trans hW (fun k hk1 hk => hk.elim id (fun h => by omega)))⟩
           refine o_ 11 101 (fun K hK => ?_)
           refine goes_ Try.func44 (by kernel_rfl) rfl #[.agg #[.bool false, .int .i64 (n : Int), .slice A0_1 l0_1.length c0_1, .slice A1 l1.length c1, .slice A ws.length c], .slice B0 al.length d0, .slice B1 vs.length d1] (by rfl) rfl rfl byL ?_
           refine (ref41_Set.uni HK.out (by omega) (Kd.C_below HG.out HB8.out) HGC.out (Kd.C_below HL.out HB8.out) HLC.out HS8.out HCC.out (fun k hk => by
            rw [hsz]
            rcases hk with hk | rfl
            ·exact Nat.lt_succ_of_lt (htx k hk)
            ·omega) (Kd.C_below HA0.out HB8.out) (Kd.C_below HA1.out HB8.out) (by omega) HWS.out (by omega) (by omega)).mono ?_
           rintro e w9 ⟨hb9, A', c', rfl, hs9, hc9⟩
           refine ⟨_, rfl, ?_⟩
           have hb10 := below_then hba hba.size hb9
           refine hK.out _ _ (hS _ hb10) (fun hHeld => ?_)
           refine n_ 101 ?_
           refine p_ 12 89 ?_
           refine p_ 13 102 ?_
           refine p_ 14 103 ?_
           refine p_ 15 104 ?_
           refine at_ (HK1 A' c' w7.heap.size _ ⟨⟨hb10⟩, ⟨Nat.le_refl _⟩, ⟨blk_below HY8.out hb9⟩, ⟨hs9⟩, ⟨hc9⟩⟩ hHeld)
         rintro A' c' b16 w8 ⟨HB8, HB16, HY, HSY, HCY⟩ hHeld
         clear hS hba
         refine n_ 16 ?_
         replace HX := Aside0.mk (blk_below HX.out HB8.out)
         replace HB := Aside0.mk (below_then HB.out HB.out.size HB8.out)
         replace HM := Aside0.mk (HM.out.below HB8.out)
         have g0 : w8.frozen? ⟨b16, 0, none⟩ = false := blk_frozen HY.out 0
         have g1 : w8.frozen? ⟨b16, 1, none⟩ = false := blk_frozen HY.out 1
         have g2 : w8.frozen? ⟨b16, 2, none⟩ = false := blk_frozen HY.out 2
         have g3 : w8.frozen? ⟨b16, 3, none⟩ = false := blk_frozen HY.out 3
         have g4 : w8.frozen? ⟨b16, 4, none⟩ = false := blk_frozen HY.out 4
         have y0 := (blk_cell HY.out 0).trans rfl
         have y1 := (blk_cell HY.out 1).trans rfl
         have y2 := (blk_cell HY.out 2).trans rfl
         have y3 := (blk_cell HY.out 3).trans rfl
         have y4 := (blk_cell HY.out 4).trans rfl
         refine l_ 17 (fun K hK => ?_)
         refine skip_ (w1 := ?_) (by rfl) rfl ?_ ?_
         rotate_left; (·go_simp; rfl)
         refine hK.out _ _ ?_
         clear hK K
         refine p_ 18 17 ?_
         refine p_ 19 18 ?_
         refine d_ ?_
         clear hHeld g0 g1 g2 g3 g4 y0 y1 y2 y3 y4
         have hbt := HM.out.base
         have hx7 : bx ≠ b16 := fun h => by have := hblk_lt HX.out; have h2 := HXL.out; have h3 := HB16.out; omega
         have htb : t ≤ b16 := Nat.le_trans HT7.out HB16.out
         have HX9 := Aside0.mk ((far5 (w := w8) (b := b16) (c0 := .bool false) (c1 := .int .i64 (n : Int)) (c2 := .slice A0_1 l0_1.length c0_1) (c3 := .slice A1 l1.length c1) (c4 := .slice A' (setW ws al vs).length c') hx7).trans HX.out)
         have HY9 := Aside0.mk (put5 (c0 := .bool false) (c1 := .int .i64 (n : Int)) (c2 := .slice A0_1 l0_1.length c0_1) (c3 := .slice A1 l1.length c1) (c4 := .slice A' (setW ws al vs).length c') HY.out)
         have HB9 := Aside0.mk (below5 (b := b16) (c0 := .bool false) (c1 := .int .i64 (n : Int)) (c2 := .slice A0_1 l0_1.length c0_1) (c3 := .slice A1 l1.length c1) (c4 := .slice A' (setW ws al vs).length c') HB.out (by omega))
         have HM9 := Aside0.mk (HM.out.far (below5 (b := b16) (c0 := .bool false) (c1 := .int .i64 (n : Int)) (c2 := .slice A0_1 l0_1.length c0_1) (c3 := .slice A1 l1.length c1) (c4 := .slice A' (setW ws al vs).length c') (Below.refl t w8) htb))
         have HS9 := Aside0.mk ((HSY.out.bel (bel5 (b := b16) (c0 := .bool false) (c1 := .int .i64 (n : Int)) (c2 := .slice A0_1 l0_1.length c0_1) (c3 := .slice A1 l1.length c1) (c4 := .slice A' (setW ws al vs).length c') (Bel.refl _ w8) (.inr rfl))).more (T' := fun k => Bet b t k ∨ k = bx) (fun k _ hk => .inl hk))
         clear HX HY HB HM HSY HS HB8
         generalize (((((w8.setCell ⟨b16, 0, none⟩ (.bool false)).setCell ⟨b16, 1, none⟩ (.int .i64 (n : Int))).setCell ⟨b16, 2, none⟩ (.slice A0_1 l0_1.length c0_1)).setCell ⟨b16, 3, none⟩ (.slice A1 l1.length c1)).setCell ⟨b16, 4, none⟩ (.slice A' (setW ws al vs).length c')) = w9 at HX9 HY9 HB9 HM9 HS9 ⊢
         have y0 := (blk_cell HY9.out 0).trans rfl
         have y1 := (blk_cell HY9.out 1).trans rfl
         have y2 := (blk_cell HY9.out 2).trans rfl
         have y3 := (blk_cell HY9.out 3).trans rfl
         have y4 := (blk_cell HY9.out 4).trans rfl
         have HWN : Aside0 ((setW ws al vs).length = l0_1.length) := ⟨(setW_len ws al vs).trans HWS.out⟩
         go_wp2_with (fail)
         refine (law41_same.calls HK.out (by omega) (by omega) HWN.out (by omega) HM9.out.met (Kd.C_below HG.out HB9.out) HGC.out (Kd.C_below HL.out HB9.out) HLC.out HS9.out.here HCY.out).mono ?_
         rintro e w10 ⟨rfl, hb10⟩
         replace HX9 := Aside0.mk (blk_below HX9.out hb10)
         replace HY9 := Aside0.mk (blk_below HY9.out hb10)
         replace HM9 := Aside0.mk (HM9.out.below hb10)
         replace HS9 := Aside0.mk (HS9.out.below hb10)
         replace HB9 := Aside0.mk (below_then HB9.out HB9.out.size hb10)
         clear hb10 y0 y1 y2 y3 y4
         have y0 := (blk_cell HY9.out 0).trans rfl
         have y1 := (blk_cell HY9.out 1).trans rfl
         have y2 := (blk_cell HY9.out 2).trans rfl
         have y3 := (blk_cell HY9.out 3).trans rfl
         have y4 := (blk_cell HY9.out 4).trans rfl
         have x0 := (blk_cell HX9.out 0).trans rfl
         have x1 := (blk_cell HX9.out 1).trans rfl
         have x2 := (blk_cell HX9.out 2).trans rfl
         have x3 := (blk_cell HX9.out 3).trans rfl
         have x4 := (blk_cell HX9.out 4).trans rfl
         have g0 : w10.frozen? ⟨bx, 0, none⟩ = false := blk_frozen HX9.out 0
         have g1 : w10.frozen? ⟨bx, 1, none⟩ = false := blk_frozen HX9.out 1
         have g2 : w10.frozen? ⟨bx, 2, none⟩ = false := blk_frozen HX9.out 2
         have g3 : w10.frozen? ⟨bx, 3, none⟩ = false := blk_frozen HX9.out 3
         have g4 : w10.frozen? ⟨bx, 4, none⟩ = false := blk_frozen HX9.out 4
         go_wp2_with (fail)
         go_roundw
         case rel =>
          exact ⟨k + 1, setW ws al vs, A', c', by go_num, by omega, ⟨below5 HB9.out hbx0⟩, ⟨put5 HX9.out⟩, ⟨HM9.out.far (below5 (Below.refl t w10) ht4)⟩, ⟨HS9.out.bel (bel5 (Bel.refl _ w10) (.inr rfl))⟩, HCY, HWN⟩
         case measure => simp [intOf]; omega
        ·go_wp2_with (fail)
         refine (LIVES _ HB).mono ?_
         rintro e w6 ⟨rfl, hb6⟩
         go_wp2
         go_ret
         exact ⟨rfl, hb6⟩
       ·go_wp2_with (fail)
        refine (LIVES _ HB).mono ?_
        rintro e w6 ⟨rfl, hb6⟩
        go_wp2
        go_ret
        exact ⟨rfl, hb6⟩
      ·go_wp2_with (fail)
       refine (LIVES _ HB).mono ?_
       rintro e w6 ⟨rfl, hb6⟩
       go_wp2
       go_ret
       exact ⟨rfl, hb6⟩
   ·go_wp2_with (fail)
    refine (LIVES _ HB).mono ?_
    rintro e w3 ⟨rfl, hb3⟩
    go_wp2
    go_ret
    exact ⟨rfl, hb3⟩
  ·go_wp2_with (fail)
   refine (LIVES _ HB).mono ?_
   rintro e w3 ⟨rfl, hb3⟩
   go_wp2
   go_ret
   exact ⟨rfl, hb3⟩
end Go.Proofs.Ytcfeehaoeaoegaa.Print
