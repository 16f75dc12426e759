import Derived.Test.YtcfeehaoeaoegaaM29
import Derived.Test.YtcfeehaoeaoegaaM33
namespace Go.Proofs.Ytcfeehaoeaoegaa.Print
open Go.RowKit Go.Proofs.YtcfeehaoeaoegaaW.PrintWords Go.Proofs.YtcfeehaoeaoegaaW.PrintLast Go.Proofs.YtcfeehaoeaoegaaW.PrintMore
set_option linter.unusedVariables false
set_option linter.unusedSimpArgs false

def idx (m : Nat) : List Int := (List.range m).map (fun i : Nat => (i : Int))
theorem idx_len (m : Nat) : (idx m).length = m := by simp [idx]
theorem idx_succ (m : Nat) : idx m ++ [(m : Int)] = idx (m + 1) := by simp [idx, List.range_succ]
theorem idx_at {m i : Nat} (h : i < m) : (idx m).getD i 0 = (i : Int) := by simp [idx, h]
theorem permL_zero {m : Int} : ∀ (al vs : List Int), al.length = vs.length → (∀ j, j < al.length → (0 ≤ al.getD j 0 ∧ al.getD j 0 < m) ∧ (-1 ≤ vs.getD j 0 ∧ vs.getD j 0 ≤ 1073741824)) → permL m al vs = 0
 | [], [], _, _ => rfl
 | a :: al, v :: vs, hl, h => by
  have h0 := h 0 (by simp)
  simp only [List.getD_cons_zero] at h0
  unfold permL
  rw [if_neg (by omega), if_neg (by omega)]
  exact permL_zero al vs (by simpa using hl) (fun j hj => by
   have h1 := h (j + 1) (by simpa using hj)
   simpa only [List.getD_cons_succ] using h1)
theorem wsTo_idx {ws vs : List Int} {m : Nat} (h1 : ws.length = m) : ∀ k, k ≤ m → ∀ i, i < m → (wsTo ws (idx m) vs k).getD i 0 = if i < k then vs.getD i 0 else ws.getD i 0
 | 0, _, i, _ => by rw [if_neg (by omega)]; rfl
 | k + 1, hk, i, hi => by
  show ((wsTo ws (idx m) vs k).set ((idx m).getD k 0).toNat (vs.getD k 0)).getD i 0 = _
  rw [idx_at (by omega), Int.toNat_natCast, getD_set_int (by rw [wsTo_len]; omega), wsTo_idx h1 k (by omega) i hi]
  by_cases hik : k = i
  ·subst hik
   rw [if_pos rfl, if_pos (by omega)]
  ·rw [if_neg hik]
   by_cases hlt : i < k
   ·rw [if_pos hlt, if_pos (by omega)]
   ·rw [if_neg hlt, if_neg (by omega)]
theorem set_idx {ws vs : List Int} {m : Nat} (h1 : ws.length = m) (h2 : vs.length = m) (hv : ∀ x ∈ vs, -1 ≤ x ∧ x ≤ 1073741824) : permC (ws.length : Int) (idx m) vs = 0 ∧ wsTo ws (idx m) vs (idx m).length = vs := by
 constructor
 ·unfold permC
  rw [if_pos ((idx_len m).trans h2.symm)]
  refine permL_zero _ _ ((idx_len m).trans h2.symm) (fun j hj => ?_)
  rw [idx_len] at hj
  rw [idx_at hj, getD_at (by omega)]
  have := hv _ (List.getElem_mem (show j < vs.length by omega))
  omega
 ·refine List.ext_getElem (by rw [wsTo_len, h1, h2]) (fun i hi hi2 => ?_)
  have h3 := wsTo_idx (vs := vs) h1 (idx m).length (by rw [idx_len]; omega) i (by omega)
  rw [if_pos (by rw [idx_len]; omega), getD_at hi, getD_at hi2] at h3
  exact h3
theorem diffN_self (U D : List Int) : ∀ e, diffN U D U D e = 0
 | 0 => rfl
 | e + 1 => by rw [diffN_succ, if_pos ⟨rfl, rfl⟩, diffN_self U D e]
theorem setN_idx {n : Nat} {arcs : List S38} {L ws vs : List Int} {m : Nat} (h1 : ws.length = m) (h2 : vs.length = m) (hv : ∀ x ∈ vs, -1 ≤ x ∧ x ≤ 1073741824) : setN n arcs L ws (idx m) vs = (diffN (sdS n arcs L ws).1 (sdS n arcs L ws).2 (sdS n arcs L vs).1 (sdS n arcs L vs).2 (hierS n arcs L).edges.length : Int) ∧ setW ws (idx m) vs = vs := by
 obtain ⟨e1, e2⟩ := set_idx h1 h2 hv
 unfold setN setW
 rw [if_pos e1, if_pos e1, e2]
 exact ⟨rfl, rfl⟩
def mapmakerlaw41_CustomCopies.f (a0_0 : Int) (l0_1 : List S38) (l1 l2 l3 : List Int) : Option Bool := some true
set_option maxHeartbeats 12800000 in
set_option maxRecDepth 100000 in
theorem mapmakerlaw41_CustomCopies.calls (a0_0 : Int) (A0_1 : Option Addr) (c0_1 : Nat) (l0_1 : List S38) (A1 : Option Addr) (c1 : Nat) (l1 : List Int) (A2 : Option Addr) (c2 : Nat) (l2 : List Int) (A3 : Option Addr) (c3 : Nat) (l3 : List Int) (r : Bool) (w : World) (hr0_1 : Kd.C k38 w A0_1 l0_1.length l0_1) (hc0_1 : l0_1.length ≤ c0_1)
  (hr1 : Kd.C (Kd.int .i64) w A1 l1.length l1) (hc1 : l1.length ≤ c1) (hr2 : Kd.C (Kd.int .i64) w A2 l2.length l2) (hc2 : l2.length ≤ c2) (hr3 : Kd.C (Kd.int .i64) w A3 l3.length l3) (hc3 : l3.length ≤ c3) (h : mapmakerlaw41_CustomCopies.f a0_0 l0_1 l1 l2 l3 = some r) :
  Calls Try.prog 10 #[.agg #[.int .i64 a0_0, .slice A0_1 l0_1.length c0_1], .slice A1 l1.length c1, .slice A2 l2.length c2, .slice A3 l3.length c3] w fun e w' => e = .returned (.bool r) ∧ Below w.heap.size w w' := by
 injection h with h
 subst h
 obtain ⟨fb, hfb, hfw⟩ := few41 a0_0 l0_1 l2
 have HFB := Aside0.mk hfb
 have HFW := Aside0.mk hfw
 have HG := Aside0.mk hr0_1
 have HL := Aside0.mk hr1
 have HW := Aside0.mk hr2
 have HC3 := Aside0.mk hr3
 have HGC := Aside0.mk hc0_1
 have HLC := Aside0.mk hc1
 have HWC := Aside0.mk hc2
 have HC3C := Aside0.mk hc3
 clear hr0_1 hr1 hr2 hr3 hc0_1 hc1 hc2 hc3 hfb hfw
 go_enter Try.func10, Try.ntmps10
 go_wp2_with (fail)
 have HBK := Aside0.mk (heap_alloc_new w (Obj.cells #[.int .i64 a0_0, .slice A0_1 l0_1.length c0_1] 24))
 have HB : Aside0 (Below w.heap.size w (w.alloc (Obj.cells #[.int .i64 a0_0, .slice A0_1 l0_1.length c0_1] 24))) := ⟨(Below.refl _ _).alloc (Nat.le_refl _) _⟩
 generalize w.alloc (Obj.cells #[.int .i64 a0_0, .slice A0_1 l0_1.length c0_1] 24) = w1 at HBK HB ⊢
 refine (mapmakerlaw41_few.calls a0_0 A0_1 c0_1 l0_1 A2 c2 l2 fb w1 (Kd.C_below HG.out HB.out) HGC.out (Kd.C_below HW.out HB.out) HWC.out HFB.out).mono ?_
 rintro e w2 ⟨rfl, hb2⟩
 replace HBK := Aside0.mk (blk_below HBK.out hb2)
 replace HB := Aside0.mk (below_then HB.out HB.out.size hb2)
 clear hb2
 have LIVES : ∀ wl : World, Aside0 (Below w.heap.size w wl) → Calls Try.prog 35 #[] wl fun e w' => e = .returned (.bool true) ∧ Below w.heap.size w w' := fun wl hb => (mapmakerlaw41_lives.calls wl).mono fun e w' h => ⟨h.1, below_then hb.out hb.out.size h.2⟩
 cases fb with
 | false =>
  go_wp2_with (fail)
  refine (LIVES _ HB).mono ?_
  rintro e w3 ⟨rfl, hb3⟩
  go_wp2
  go_ret
  exact ⟨rfl, hb3⟩
 | true =>
  obtain ⟨hN, hal, hwl⟩ := HFW.out rfl
  by_cases hll : l1.length ≤ 20
  ·by_cases hl6 : l3.length ≤ 60
   ·have hc0 := (blk_cell HBK.out 0).trans rfl
    have hc1 := (blk_cell HBK.out 1).trans rfl
    go_wp2_with (fail)
    refine (law41_Setup.callsB (Kd.C_below HG.out HB.out) HGC.out (Kd.C_below HL.out HB.out) HLC.out (Kd.C_below HW.out HB.out) HWC.out (by omega) (by omega) (by omega) (by omega)).mono ?_
    rintro e w3 ⟨hb3, hcs⟩
    replace HBK := Aside0.mk (blk_below HBK.out hb3)
    replace HB := Aside0.mk (below_then HB.out HB.out.size hb3)
    clear hb3 hc0 hc1
    have hc0 := (blk_cell HBK.out 0).trans rfl
    have hc1 := (blk_cell HBK.out 1).trans rfl
    rcases hcs with ⟨_, rfl⟩ | ⟨h0, hd, q, p, rfl, hM⟩
    ·go_wp2_with (fail)
     refine (law41_Setup.callsB (Kd.C_below HG.out HB.out) HGC.out (Kd.C_below HL.out HB.out) HLC.out (Kd.C_below HC3.out HB.out) HC3C.out (by omega) (by omega) (by omega) (by omega)).mono ?_
     rintro e w4 ⟨hb4, hcs⟩
     replace HB := Aside0.mk (below_then HB.out HB.out.size hb4)
     clear hb4 hc0 hc1
     rcases hcs with ⟨_, rfl⟩ | ⟨_, _, q, p, rfl, _⟩
     ·go_wp2_with (fail)
      refine (LIVES _ HB).mono ?_
      rintro e w5 ⟨rfl, hb5⟩
      go_wp2
      go_ret
      exact ⟨rfl, hb5⟩
     ·go_wp2_with (fail)
      refine (LIVES _ HB).mono ?_
      rintro e w5 ⟨rfl, hb5⟩
      go_wp2
      go_ret
      exact ⟨rfl, hb5⟩
    ·obtain ⟨n, rfl, hn, hk⟩ := hk_of (by omega) h0
     rw [Int.toNat_natCast] at hM
     have HM := Aside0.mk hM
     have HK := Aside0.mk hk
     have HD := Aside0.mk hd
     have HWL := Aside0.mk (dchk_ok hd).2.1
     have hn1 : n ≤ 10 := by omega
     clear hM hk h0 hn hd
     go_wp2_with (fail)
     refine (law41_Setup.callsB (Kd.C_below HG.out HB.out) HGC.out (Kd.C_below HL.out HB.out) HLC.out (Kd.C_below HC3.out HB.out) HC3C.out (by omega) (by omega) (by omega) (by omega)).mono ?_
     rintro e w4 ⟨hb4, hcs⟩
     replace HBK := Aside0.mk (blk_below HBK.out hb4)
     replace HM := Aside0.mk (HM.out.below hb4)
     replace HB := Aside0.mk (below_then HB.out HB.out.size hb4)
     clear hb4 hc0 hc1
     rcases hcs with ⟨_, rfl⟩ | ⟨_, hd, qo, po, rfl, hO⟩
     ·go_wp2_with (fail)
      refine (LIVES _ HB).mono ?_
      rintro e w5 ⟨rfl, hb5⟩
      go_wp2
      go_ret
      exact ⟨rfl, hb5⟩
     ·rw [Int.toNat_natCast] at hO
      have HO := Aside0.mk hO
      have HLO := Aside0.mk (dchk_ok hd).2.1
      have HSI := Aside0.mk (setN_idx (n := n) (arcs := l0_1) (L := l1) (HWL.out.trans HLO.out.symm) rfl (dchk_ok hd).2.2)
      have HSP := Aside0.mk (set_idx (HWL.out.trans HLO.out.symm) rfl (dchk_ok hd).2.2).1
      have HSJ := Aside0.mk (setN_idx (n := n) (arcs := l0_1) (L := l1) (rfl : l3.length = l3.length) rfl (dchk_ok hd).2.2)
      have HSQ := Aside0.mk (set_idx (rfl : l3.length = l3.length) rfl (dchk_ok hd).2.2).1
      have hw4 : w.heap.size ≤ w4.heap.size := HB.out.size
      clear hO hd
      go_wp2_with (fail)
      refine (Metric_Copy.of HK.out (by omega) HM.out (by omega) HWL.out).mono ?_
      rintro e w5 ⟨hb5, qc, rfl, hMC⟩
      have HC := Aside0.mk hMC
      have HB4 := Aside0.mk hb5
      have HBK5 := Aside0.mk (blk_below HBK.out hb5)
      replace HB := Aside0.mk (below_then HB.out HB.out.size hb5)
      clear hb5 hMC
      go_wp2_with (fail)
      go_loopw [14, 66] (fun a i wr => ∃ (k : Nat) (A : Option Addr) (c : Nat), a = .slice A (idx k).length c ∧ i = .int .i64 (k : Int) ∧ k ≤ l3.length ∧ Aside0 (Below w5.heap.size w5 wr) ∧ Aside0 (Kd.R (Kd.int .i64) 3 wr w5.heap.size (fun _ => True) (.slice A (idx k).length c) (idx k))) (fun _ i _ => l3.length - (intOf i).toNat)
      case atStart => exact ⟨0, none, 0, rfl, rfl, Nat.zero_le _, ⟨Below.refl _ _⟩, ⟨Kd.R_nil _ _ _ _ _⟩⟩
      case round =>
       obtain ⟨k, A, c, rfl, rfl, hk, HBL, HA⟩ := hrel
       by_cases hkl : k < l3.length
       ·have hil := idx_len k
        go_wp2_with (
         refine Kd.R_append (Kd.int .i64) (w0 := w5) w5.heap.size (by rfl) (.tmp 69) (.tmp 71) 25 3 (.int .i64 0) 8 rfl Try.underlying25 info3 rfl (by decide) (by omega) (.slice A (idx k).length c) (idx k) (k : Int) [.int .i64 (k : Int)] (fun _ => True) (fun _ => False) rfl rfl ?aP (fun _ hk => hk.elim) ?aF ?aO ?aB ?aS ?aL ?_
         (case aP => exact rfl)
         (case aF => exact (fun _ _ => trivial))
         (case aO => exact Kd.R_mono HA.out (fun _ _ => trivial))
         (case aB => exact HBL.out)
         (case aS => exact HBL.out.size)
         (case aL => omega)
         intro v9 w9 ho hb hg hat
         have HO9 := Aside0.mk ho
         have HB9 := Aside0.mk hb
         clear ho hb hg hat)
        rw [idx_succ] at HO9
        obtain ⟨A9, c9, rfl⟩ := Kd.R_slice HO9.out
        go_roundw
        case rel => exact ⟨k + 1, A9, c9, rfl, by go_num, by omega, HB9, HO9⟩
        case measure => simp [intOf]; omega
       ·obtain rfl : k = l3.length := by omega
        have hbb := HC.out.base
        have HSA : Aside0 (St (Bet w4.heap.size w5.heap.size) wr A (idx l3.length)) := ⟨fun W' hW => (Kd.R_reads' (Kd.R_move (Kd.R_bound HA.out) (w1 := W') (fun k hk => hW.block k hk.2.2.1 (fun hT => by have h1 := hT.2; have h2 := hk.2.1; omega)))).2.2⟩
        have HSV : Aside0 (St (Bet w4.heap.size w5.heap.size) wr A3 l3) := ⟨St.of HC3.out (below_then HB.out HB.out.size HBL.out) (fun k hk => Nat.le_trans hw4 hk.1)⟩
        replace HC := Aside0.mk (HC.out.below HBL.out)
        replace HB4 := Aside0.mk (below_then HB4.out HB4.out.size HBL.out)
        clear HA
        replace HBK5 := Aside0.mk (blk_below HBK5.out HBL.out)
        replace HB := Aside0.mk (below_then HB.out HB.out.size HBL.out)
        obtain ⟨al, HAL⟩ : ∃ al, Aside0 (idx l3.length = al) := ⟨_, ⟨rfl⟩⟩
        have hil : al.length = l3.length := by rw [← HAL.out]; exact idx_len _
        have HIL := Aside0.mk hil
        rw [HAL.out] at HSA HSI HSP HSJ HSQ ⊢
        clear HAL hil
        go_wp2_with (fail)
        refine (Metric_Set.uni HK.out (by omega) HC.out (by omega) HWL.out HSA.out HSV.out (by have := HIL.out; omega)).mono ?_
        rintro e w6 ⟨hB6, rfl, hM6⟩
        replace HSA := Aside0.mk (HSA.out.bel hB6)
        replace HSV := Aside0.mk (HSV.out.bel hB6)
        have h46 := hB6.old (by have := HB4.out.size; exact this)
        replace HB4 := Aside0.mk (bChain HB4.out h46)
        replace HB := Aside0.mk (bChain HB.out (bTo h46 hw4))
        replace HBK5 := Aside0.mk ((h46.block w.heap.size (by have := hblk_lt HBK.out; omega)).trans HBK5.out)
        have HNN := Aside0.mk HSI.out.1
        rw [HSI.out.2] at hM6
        rw [HNN.out, HSP.out]
        replace HC := Aside0.mk hM6
        clear hB6 hM6 h46
        go_wp2_with (fail)
        refine (Metric_Set.uni HK.out (by omega) HC.out (by omega) HLO.out HSA.out HSV.out (by have := HIL.out; omega)).mono ?_
        rintro e w7 ⟨hB7, rfl, hM7⟩
        have h47 := hB7.old (by have := HB4.out.size; exact this)
        replace HB4 := Aside0.mk (bChain HB4.out h47)
        replace HB := Aside0.mk (bChain HB.out (bTo h47 hw4))
        replace HBK5 := Aside0.mk ((h47.block w.heap.size (by have := hblk_lt HBK.out; omega)).trans HBK5.out)
        have HN0 : Aside0 (setN n l0_1 l1 l3 al l3 = 0) := ⟨by rw [HSJ.out.1, diffN_self]; rfl⟩
        rw [HSJ.out.2] at hM7
        rw [HN0.out, HSQ.out]
        replace HC := Aside0.mk hM7
        replace HM := Aside0.mk (HM.out.below HB4.out)
        replace HO := Aside0.mk (HO.out.below HB4.out)
        clear hM7 h47 hB7 HSA HSV HB4 HSI HSP HSJ HSQ HN0 HNN HIL HBK
        have hc0 := (blk_cell HBK5.out 0).trans rfl
        have hc1 := (blk_cell HBK5.out 1).trans rfl
        obtain ⟨m, HME⟩ : ∃ m, Aside0 ((hierS n l0_1 l1).edges.length = m) := ⟨_, ⟨rfl⟩⟩
        have hsh := HK.out.short (by omega)
        rw [HME.out] at hsh ⊢
        go_wp2_with (fail)
        refine (ref41_New.calls (Kd.C_below HG.out HB.out) HGC.out (Kd.C_below HW.out HB.out) HWC.out (by omega) (by omega)).mono ?_
        rintro e w8 ⟨hb8, (⟨_, rfl⟩ | ⟨he, _⟩)⟩
        rotate_left
        ·exact absurd HD.out he
        replace HM := Aside0.mk (HM.out.below hb8)
        replace HO := Aside0.mk (HO.out.below hb8)
        replace HC := Aside0.mk (HC.out.below hb8)
        replace HB := Aside0.mk (below_then HB.out HB.out.size hb8)
        clear hb8 hc0 hc1
        go_wp2_with (fail)
        have hba : Below w8.heap.size w8 (w8.alloc (Obj.cells #[.bool false, .int .i64 (n : Int), .slice A0_1 l0_1.length c0_1, .slice A1 l1.length c1, .slice A2 l2.length c2] 67)) := (Below.refl _ _).alloc (Nat.le_refl _) _
        have HX := Aside0.mk (heap_alloc_new w8 (Obj.cells #[.bool false, .int .i64 (n : Int), .slice A0_1 l0_1.length c0_1, .slice A1 l1.length c1, .slice A2 l2.length c2] 67))
        replace HM := Aside0.mk (HM.out.below hba)
        replace HO := Aside0.mk (HO.out.below hba)
        replace HC := Aside0.mk (HC.out.below hba)
        replace HB := Aside0.mk (below_then HB.out HB.out.size hba)
        clear hba
        generalize w8.alloc (Obj.cells #[.bool false, .int .i64 (n : Int), .slice A0_1 l0_1.length c0_1, .slice A1 l1.length c1, .slice A2 l2.length c2] 67) = w9 at HM HO HC HB HX ⊢
        generalize w8.heap.size = bx at HX ⊢
        refine (Metric_Hier.calls (HM.out.met.reads HK.out (by omega))).mono ?_
        rintro e w10 ⟨rfl, rfl⟩
        go_wp2_with (fail)
        refine (Hier_Edges.calls HM.out.met.hier (by rw [HME.out]; omega)).mono ?_
        rintro e w11 ⟨ev, rfl, hr11, hb11⟩
        obtain ⟨eA, ec, rfl, hec, heC⟩ := Kd.R_reads hr11
        rw [HME.out]
        replace HM := Aside0.mk (HM.out.below hb11)
        replace HO := Aside0.mk (HO.out.below hb11)
        replace HC := Aside0.mk (HC.out.below hb11)
        replace HX := Aside0.mk (blk_below HX.out hb11)
        replace HB := Aside0.mk (below_then HB.out HB.out.size hb11)
        clear hr11 hb11 hec heC
        have HL2 := Aside0.mk (sdS_len n l0_1 l1 l2)
        have HL3 := Aside0.mk (sdS_len n l0_1 l1 l3)
        rw [HME.out] at HL2 HL3
        have HRM := Aside0.mk (HM.out.met.reads HK.out (by omega))
        have HRO := Aside0.mk (HO.out.met.reads HK.out (by omega))
        have HRC := Aside0.mk (HC.out.met.reads HK.out (by omega))
        obtain ⟨⟨U2, D2⟩, HU2⟩ : ∃ x, Aside0 (sdS n l0_1 l1 l2 = x) := ⟨_, ⟨rfl⟩⟩
        obtain ⟨⟨U3, D3⟩, HU3⟩ : ∃ x, Aside0 (sdS n l0_1 l1 l3 = x) := ⟨_, ⟨rfl⟩⟩
        rw [HU2.out] at HL2 HRM ⊢
        rw [HU3.out] at HL3 HRO HRC ⊢
        dsimp only at HL2 HL3 HRM HRO HRC ⊢
        obtain ⟨⟨hu2, hd2⟩⟩ := HL2
        obtain ⟨⟨hu3, hd3⟩⟩ := HL3
        have HUL := Aside0.mk (And.intro hu2 (And.intro hd2 (And.intro hu3 hd3)))
        clear hu2 hd2 hu3 hd3
        go_wp2_with (fail)
        go_loopw [20, 99] (fun d i wr => ∃ (k : Nat), d = .int .i64 (diffN U2 D2 U3 D3 k : Int) ∧ i = .int .i64 (k : Int) ∧ k ≤ m ∧ diffN U2 D2 U3 D3 k ≤ k ∧ wr = w11) (fun _ i _ => m - (intOf i).toNat)
        case atStart => exact ⟨0, rfl, rfl, Nat.zero_le _, Nat.le_refl _, rfl⟩
        case round =>
         obtain ⟨k, rfl, rfl, hk, hdk, rfl⟩ := hrel
         by_cases hkl : k < m
         ·have HDS := Aside0.mk (diffN_succ U2 D2 U3 D3 k)
          have HS1 := Aside0.mk (sideS_at (l := U2) (j := k) (by rw [HUL.out.1]; exact hkl))
          have HS2 := Aside0.mk (sideS_at (l := D2) (j := k) (by rw [HUL.out.2.1]; exact hkl))
          have HS3 := Aside0.mk (sideS_at (l := U3) (j := k) (by rw [HUL.out.2.2.1]; exact hkl))
          have HS4 := Aside0.mk (sideS_at (l := D3) (j := k) (by rw [HUL.out.2.2.2]; exact hkl))
          go_wp2_with (fail)
          refine (Metric_Up.calls HRC.out (k : Int)).mono ?_
          rintro e w12 ⟨rfl, rfl⟩
          go_wp2_with (fail)
          refine (Metric_Up.calls HRO.out (k : Int)).mono ?_
          rintro e w12 ⟨rfl, rfl⟩
          go_wp2_with (fail)
          refine (Metric_Down.calls HRC.out (k : Int)).mono ?_
          rintro e w12 ⟨rfl, rfl⟩
          go_wp2_with (fail)
          refine (Metric_Down.calls HRO.out (k : Int)).mono ?_
          rintro e w12 ⟨rfl, rfl⟩
          go_wp2_with (fail)
          refine (Metric_Up.calls HRM.out (k : Int)).mono ?_
          rintro e w12 ⟨rfl, rfl⟩
          go_wp2_with (fail)
          refine (Metric_Up.calls HRO.out (k : Int)).mono ?_
          rintro e w12 ⟨rfl, rfl⟩
          rw [HS1.out, HS3.out]
          obtain ⟨u2, HU2k⟩ : ∃ x, Aside0 (U2.getD k 0 = x) := ⟨_, ⟨rfl⟩⟩
          obtain ⟨u3, HU3k⟩ : ∃ x, Aside0 (U3.getD k 0 = x) := ⟨_, ⟨rfl⟩⟩
          obtain ⟨d2, HD2k⟩ : ∃ x, Aside0 (D2.getD k 0 = x) := ⟨_, ⟨rfl⟩⟩
          obtain ⟨d3, HD3k⟩ : ∃ x, Aside0 (D3.getD k 0 = x) := ⟨_, ⟨rfl⟩⟩
          rw [HU2k.out, HU3k.out, HD2k.out, HD3k.out] at HDS
          rw [HU2k.out, HU3k.out]
          rw [HD2k.out] at HS2
          rw [HD3k.out] at HS4
          by_cases hu : u2 = u3
          ·subst hu
           go_wp2_with (fail)
           refine (Metric_Down.calls HRM.out (k : Int)).mono ?_
           rintro e w12 ⟨rfl, rfl⟩
           go_wp2_with (fail)
           refine (Metric_Down.calls HRO.out (k : Int)).mono ?_
           rintro e w12 ⟨rfl, rfl⟩
           rw [HS2.out, HS4.out]
           by_cases hd : d2 = d3
           ·subst hd
            have HE : Aside0 (diffN U2 D2 U3 D3 (k + 1) = diffN U2 D2 U3 D3 k) := ⟨by rw [HDS.out, if_pos (by simp)]⟩
            go_wp2_with (fail)
            go_roundw
            case rel => exact ⟨k + 1, by rw [HE.out], by go_num, by omega, by rw [HE.out]; omega, by first | exact trivial | rfl⟩
            case measure => simp [intOf]; omega
           ·have HE : Aside0 (diffN U2 D2 U3 D3 (k + 1) = diffN U2 D2 U3 D3 k + 1) := ⟨by rw [HDS.out, if_neg (fun h => hd h.2)]⟩
            go_wp2_with (fail)
            go_roundw
            case rel => exact ⟨k + 1, by rw [HE.out]; go_num, by go_num, by omega, by rw [HE.out]; omega, by first | exact trivial | rfl⟩
            case measure => simp [intOf]; omega
          ·have HE : Aside0 (diffN U2 D2 U3 D3 (k + 1) = diffN U2 D2 U3 D3 k + 1) := ⟨by rw [HDS.out, if_neg (fun h => hu h.1)]⟩
           go_wp2_with (fail)
           go_roundw
           case rel => exact ⟨k + 1, by rw [HE.out]; go_num, by go_num, by omega, by rw [HE.out]; omega, by first | exact trivial | rfl⟩
           case measure => simp [intOf]; omega
         ·obtain rfl : k = m := by omega
          have y0 := (blk_cell HX.out 0).trans rfl
          have y1 := (blk_cell HX.out 1).trans rfl
          have y2 := (blk_cell HX.out 2).trans rfl
          have y3 := (blk_cell HX.out 3).trans rfl
          have y4 := (blk_cell HX.out 4).trans rfl
          generalize diffN U2 D2 U3 D3 k = N at hdk ⊢
          go_wp2_with (fail)
          refine (law41_same.calls HK.out (by omega) (by omega) HWL.out (by omega) HM.out.met (Kd.C_below HG.out HB.out) HGC.out (Kd.C_below HL.out HB.out) HLC.out (Kd.C_below HW.out HB.out) HWC.out).mono ?_
          rintro e w12 ⟨rfl, hb12⟩
          replace HB := Aside0.mk (below_then HB.out HB.out.size hb12)
          go_wp2_with (fail)
          refine (LIVES _ HB).mono ?_
          rintro e w13 ⟨rfl, hb13⟩
          go_wp2
          go_ret
          exact ⟨rfl, hb13⟩
   ·go_wp2_with (fail)
    refine (LIVES _ HB).mono ?_
    rintro e w3 ⟨rfl, hb3⟩
    go_wp2
    go_ret
    exact ⟨rfl, hb3⟩
  ·go_wp2_with (fail)
   refine (LIVES _ HB).mono ?_
   rintro e w3 ⟨rfl, hb3⟩
   go_wp2
   go_ret
   exact ⟨rfl, hb3⟩
end Go.Proofs.Ytcfeehaoeaoegaa.Print
