/- CustomLocal: a direction of an edge weighs no more than any of its arcs and any way over a lower vertex, one of these attains its weight unless it is Inf, and it is at least the distance. -/
import Derived.Test.YtcfeehaoeaoegaaM22
namespace Go.Proofs.Ytcfeehaoeaoegaa.Print
open Go.RowKit Go.Proofs.YtcfeehaoeaoegaaW.PrintWords Go.Proofs.YtcfeehaoeaoegaaW.PrintLast Go.Proofs.YtcfeehaoeaoegaaW.PrintMore
set_option linter.unusedVariables false
set_option linter.unusedSimpArgs false

def attA1 (arcs : List S38) (ws : List Int) (u v x : Int) (j : Nat) : Bool := decide ((rd_T38 arcs (j : Int)).f0 = u ∧ (rd_T38 arcs (j : Int)).f1 = v ∧ 0 ≤ ws.getD j 0 ∧ ws.getD j 0 = x)
def attA (arcs : List S38) (ws : List Int) (u v x : Int) (k : Nat) : Bool := (List.range k).any (attA1 arcs ws u v x)
def attV1 (p q : Int → Int) (x y : Int) : Bool := decide (p y < mInf ∧ q y < mInf ∧ p y + q y = x)
def attV (p q : Int → Int) (x : Int) (l : List Int) : Bool := l.any (attV1 p q x)
theorem attA_succ (arcs : List S38) (ws : List Int) (u v x : Int) (k : Nat) : attA arcs ws u v x (k + 1) = (attA arcs ws u v x k || attA1 arcs ws u v x k) := by
  unfold attA
  rw [List.range_succ, List.any_append]
  simp
theorem attV_succ (p q : Int → Int) (x : Int) {l : List Int} {k : Nat} (hk : k < l.length) : attV p q x (l.take (k + 1)) = (attV p q x (l.take k) || attV1 p q x (l.getD k 0)) := by
  unfold attV
  rw [take_getD_succ hk, List.any_append]
  simp
theorem Hk.attained {n : Nat} {arcs : List S38} {L ws : List Int} (h : Hk n arcs L) (hn : n ≤ 10) {e : Nat} (he : e < (hierS n arcs L).edges.length) (hwl : ws.length = arcs.length) (hwr : ∀ i, i < ws.length → ws.getD i 0 ≤ 1073741824) {u v : Int} (huv : (u = ((hierS n arcs L).edges.getD e z38).f0 ∧ v = ((hierS n arcs L).edges.getD e z38).f1) ∨ (u = ((hierS n arcs L).edges.getD e z38).f1 ∧ v = ((hierS n arcs L).edges.getD e z38).f0)) :
    (attA arcs ws u v (atS n arcs L ws u v) arcs.length || attV (atS n arcs L ws u) (fun y => atS n arcs L ws y v) (atS n arcs L ws u v) (lowerS (hierS n arcs L) (e : Int))) = decide (atS n arcs L ws u v < mInf) := by
  obtain ⟨s1, s2, s3⟩ := h.at_spec (ws := ws) he hwl huv
  obtain ⟨x, y, hxy, hyn, e0, e1, _⟩ := h.edge_at he
  have hpw : 2 ^ x ≤ 2 ^ 10 := Nat.pow_le_pow_right (by decide) (by omega)
  have hw := h.at_walk hwl hwr
  by_cases hlt : atS n arcs L ws u v < mInf
  · rw [decide_eq_true hlt, Bool.or_eq_true]
    rcases s3 hlt with ⟨j, hj, j0, j1, jw, jn⟩ | ⟨z, hz, hzn⟩
    · left
      unfold attA
      rw [List.any_eq_true]
      refine ⟨j, by rw [List.mem_range]; exact hj, ?_⟩
      unfold attA1
      rw [decide_eq_true_eq, rd_getD]
      exact ⟨j0, j1, jw, jn⟩
    · right
      unfold attV
      rw [List.any_eq_true]
      refine ⟨z, hz, ?_⟩
      unfold attV1
      rw [decide_eq_true_eq]
      rw [← hzn] at hlt
      obtain ⟨c1, c2, c3⟩ := over_fin (atS_bound (n := n) (arcs := arcs) (L := L) (ws := ws) u z).2 (atS_bound (n := n) (arcs := arcs) (L := L) (ws := ws) z v).2 hlt
      exact ⟨c1, c2, by rw [← c3]; exact hzn⟩
  · rw [decide_eq_false hlt, Bool.or_eq_false_iff]
    constructor
    · unfold attA
      rw [List.any_eq_false]
      intro j hj
      unfold attA1
      rw [decide_eq_true_eq]
      rintro ⟨j0, j1, jw, jn⟩
      rw [List.mem_range] at hj
      have := hwr j (by omega)
      unfold mInf at hlt
      omega
    · unfold attV
      rw [List.any_eq_false]
      intro z hz
      unfold attV1
      rw [decide_eq_true_eq]
      rintro ⟨c1, c2, c3⟩
      dsimp only at c1 c2 c3
      have h2 := (h.mem_low he z).1 hz
      have h3 : (∃ i, i < (hierS n arcs L).edges.length ∧ ((hierS n arcs L).edges.getD i z38).f0 = z ∧ ((hierS n arcs L).edges.getD i z38).f1 = u) ∧ (∃ i, i < (hierS n arcs L).edges.length ∧ ((hierS n arcs L).edges.getD i z38).f0 = z ∧ ((hierS n arcs L).edges.getD i z38).f1 = v) := by
        rcases huv with ⟨rfl, rfl⟩ | ⟨rfl, rfl⟩
        · exact h2
        · exact ⟨h2.2, h2.1⟩
      obtain ⟨⟨i, hi, hi0, hi1⟩, j, hj, hj0, hj1⟩ := h3
      obtain ⟨x', y', hxy', hyn', e0', e1', _⟩ := h.edge_at hi
      have hp2 : 2 ^ x' ≤ 2 ^ 10 := Nat.pow_le_pow_right (by decide) (by omega)
      have q1 := (hw x' i u z hi (by omega) e0' (.inr ⟨hi1.symm, hi0.symm⟩) c1).2
      have q2 := (hw x' j z v hj (by omega) (hj0.trans (hi0.symm.trans e0')) (.inl ⟨hj0.symm, hj1.symm⟩) c2).2
      unfold mInf at hlt
      omega
/-- A direction weighs at least the distance. -/
theorem Hk.at_dist {n : Nat} {arcs : List S38} {L ws : List Int} (h : Hk n arcs L) {e : Nat} (he : e < (hierS n arcs L).edges.length) (hwl : ws.length = arcs.length) (hwr : ∀ i, i < ws.length → ws.getD i 0 ≤ 1073741824) {u v : Nat} (huv : ((u : Int) = ((hierS n arcs L).edges.getD e z38).f0 ∧ (v : Int) = ((hierS n arcs L).edges.getD e z38).f1) ∨ ((u : Int) = ((hierS n arcs L).edges.getD e z38).f1 ∧ (v : Int) = ((hierS n arcs L).edges.getD e z38).f0)) (hv : v < n) {d : List Int} (hd : Dist n arcs ws u d) :
    d.getD v 0 ≤ atS n arcs L ws (u : Int) (v : Int) := by
  obtain ⟨x, y, hxy, hyn, e0, e1, _⟩ := h.edge_at he
  by_cases hlt : atS n arcs L ws (u : Int) (v : Int) < mInf
  · exact hd.low v _ hv (h.at_walk hwl hwr x e _ _ he (by omega) e0 huv hlt).1
  · have h1 := (hd.rng v hv).2
    omega
def mapmakerlaw41_CustomLocal.f (a0_0 : Int) (l0_1 : List S38) (l1 l2 : List Int) : Option Bool := some true
set_option maxHeartbeats 12800000 in
set_option maxRecDepth 100000 in
theorem mapmakerlaw41_CustomLocal.calls (a0_0 : Int) (A0_1 : Option Addr) (c0_1 : Nat) (l0_1 : List S38) (A1 : Option Addr) (c1 : Nat) (l1 : List Int) (A2 : Option Addr) (c2 : Nat) (l2 : List Int) (r : Bool) (w : World) (hr0_1 : Kd.C k38 w A0_1 l0_1.length l0_1) (hc0_1 : l0_1.length ≤ c0_1)
    (hr1 : Kd.C (Kd.int .i64) w A1 l1.length l1) (hc1 : l1.length ≤ c1) (hr2 : Kd.C (Kd.int .i64) w A2 l2.length l2) (hc2 : l2.length ≤ c2) (h : mapmakerlaw41_CustomLocal.f a0_0 l0_1 l1 l2 = some r) :
    Calls Try.prog 7 #[.agg #[.int .i64 a0_0, .slice A0_1 l0_1.length c0_1], .slice A1 l1.length c1, .slice A2 l2.length c2] w fun e w' => e = .returned (.bool r) ∧ Below w.heap.size w w' := by
  injection h with h
  subst h
  obtain ⟨fb, hfb, hfw⟩ := few41 a0_0 l0_1 l2
  have HFB := Aside0.mk hfb
  have HFW := Aside0.mk hfw
  have HG := Aside0.mk hr0_1
  have HL := Aside0.mk hr1
  have HW := Aside0.mk hr2
  have HGC := Aside0.mk hc0_1
  have HLC := Aside0.mk hc1
  have HWC := Aside0.mk hc2
  clear hr0_1 hr1 hr2 hc0_1 hc1 hc2 hfb hfw
  go_enter Try.func7, Try.ntmps7
  go_wp2_with (fail)
  have HBK := Aside0.mk (heap_alloc_new w (Obj.cells #[.int .i64 a0_0, .slice A0_1 l0_1.length c0_1] 24))
  have HBE : Below w.heap.size w (w.alloc (Obj.cells #[.int .i64 a0_0, .slice A0_1 l0_1.length c0_1] 24)) := (Below.refl _ _).alloc (Nat.le_refl _) _
  replace HG := Aside0.mk (Kd.C_below HG.out HBE)
  replace HL := Aside0.mk (Kd.C_below HL.out HBE)
  replace HW := Aside0.mk (Kd.C_below HW.out HBE)
  have HB := Aside0.mk HBE
  generalize w.alloc (Obj.cells #[.int .i64 a0_0, .slice A0_1 l0_1.length c0_1] 24) = w1 at HBK HG HL HW HB ⊢
  clear HBE
  refine (mapmakerlaw41_few.calls a0_0 A0_1 c0_1 l0_1 A2 c2 l2 fb w1 HG.out HGC.out HW.out HWC.out HFB.out).mono ?_
  rintro e w2 ⟨rfl, hb2⟩
  replace HBK := Aside0.mk (blk_below HBK.out hb2)
  replace HG := Aside0.mk (Kd.C_below HG.out hb2)
  replace HL := Aside0.mk (Kd.C_below HL.out hb2)
  replace HW := Aside0.mk (Kd.C_below HW.out hb2)
  replace HB := Aside0.mk (below_then HB.out HB.out.size hb2)
  clear hb2
  cases fb with
  | false =>
    go_wp2_with (fail)
    refine (mapmakerlaw41_lives.calls _).mono ?_
    rintro e w3 ⟨rfl, hb3⟩
    replace HB := Aside0.mk (below_then HB.out HB.out.size hb3)
    clear hb3
    go_wp2
    go_ret
    exact ⟨rfl, HB.out⟩
  | true =>
    obtain ⟨hN, hal, hwl⟩ := HFW.out rfl
    by_cases hll : l1.length ≤ 20
    · have hc0 := (blk_cell HBK.out 0).trans rfl
      have hc1 := (blk_cell HBK.out 1).trans rfl
      go_wp2_with (fail)
      refine (law41_Setup.calls HG.out HGC.out HL.out HLC.out HW.out HWC.out (by omega) (by omega) (by omega) (by omega)).mono ?_
      rintro e w3 ⟨hb3, hcs⟩
      replace HBK := Aside0.mk (blk_below HBK.out hb3)
      replace HG := Aside0.mk (Kd.C_below HG.out hb3)
      replace HW := Aside0.mk (Kd.C_below HW.out hb3)
      replace HB := Aside0.mk (below_then HB.out HB.out.size hb3)
      clear hb3 hc0 hc1
      rcases hcs with ⟨_, rfl⟩ | ⟨h0, hd, q, p, rfl, hM⟩
      · go_wp2_with (fail)
        refine (mapmakerlaw41_lives.calls _).mono ?_
        rintro e w4 ⟨rfl, hb4⟩
        replace HB := Aside0.mk (below_then HB.out HB.out.size hb4)
        clear hb4
        go_wp2
        go_ret
        exact ⟨rfl, HB.out⟩
      · obtain ⟨n, rfl, hn, hk⟩ := hk_of (by omega) h0
        rw [Int.toNat_natCast] at hM
        have HM := Aside0.mk hM
        have HK := Aside0.mk hk
        have HD := Aside0.mk hd
        have hn1 : n ≤ 10 := by omega
        have hwle := (dchk_ok hd).2.1
        have HWL := Aside0.mk hwle
        have HWR : Aside0 (∀ i, i < l2.length → l2.getD i 0 ≤ 1073741824) := ⟨fun i hi => by
          have := (dchk_ok hd).2.2 _ (List.getElem_mem hi)
          rw [getD_at hi]
          omega⟩
        clear hM hk h0 hn hd hwle
        go_wp2_with (fail)
        refine (Metric_Hier.calls (HM.out.reads HK.out (by omega))).mono ?_
        rintro e w4 ⟨rfl, rfl⟩
        have hsh := HK.out.short (by omega)
        obtain ⟨m, HME⟩ : ∃ m, Aside0 ((hierS n l0_1 l1).edges.length = m) := ⟨_, ⟨rfl⟩⟩
        rw [HME.out] at hsh
        go_wp2_with (fail)
        refine (Hier_Edges.calls HM.out.hier (by rw [HME.out]; omega)).mono ?_
        rintro e w5 ⟨ev, rfl, hr5, hb5⟩
        obtain ⟨eA, ec, rfl, hec, heC⟩ := Kd.R_reads hr5
        have HE := Aside0.mk heC
        rw [HME.out] at HE ⊢
        replace HBK := Aside0.mk (blk_below HBK.out hb5)
        replace HG := Aside0.mk (Kd.C_below HG.out hb5)
        replace HW := Aside0.mk (Kd.C_below HW.out hb5)
        replace HM := Aside0.mk (HM.out.below hb5)
        replace HB := Aside0.mk (below_then HB.out HB.out.size hb5)
        clear hr5 hb5 hec heC
        go_wp2_with (fail)
        go_loopw [49] (fun i wr => ∃ (k : Nat), i = .int .i64 (k : Int) ∧ k ≤ m ∧ Aside0 (Below w5.heap.size w5 wr)) (fun i _ => m - (intOf i).toNat)
        case atStart => exact ⟨0, rfl, Nat.zero_le _, ⟨Below.refl _ _⟩⟩
        case round =>
          obtain ⟨k, rfl, hk, HBA⟩ := hrel
          by_cases hkl : k < m
          · obtain ⟨ae, hA2, hx0, hx1⟩ := at_T38 (Kd.C_below HE.out HBA.out) (k : Int) (by omega) (by omega)
            obtain ⟨ae2, hA3, hz0, _⟩ := at_T38 (Kd.C_below HE.out HBA.out) 0 (by omega) (by omega)
            obtain rfl : ae2 = ae := Option.some.inj (hA3.symm.trans hA2)
            have hsp := spot_of_cell (ad := ae2) (by exact hz0)
            obtain ⟨ab, ao, asb⟩ := ae2
            injection hsp with hz1 hz2 hes
            clear hz1 hz2 hz0 hA3
            subst hes
            simp only [Addr.add_lit, Int.toNat_natCast] at hx0 hx1
            subst hA2
            rw [rd_getD] at hx0 hx1
            obtain ⟨f0, HF0⟩ : ∃ x, Aside0 (((hierS n l0_1 l1).edges.getD k z38).f0 = x) := ⟨_, ⟨rfl⟩⟩
            obtain ⟨f1, HF1⟩ : ∃ x, Aside0 (((hierS n l0_1 l1).edges.getD k z38).f1 = x) := ⟨_, ⟨rfl⟩⟩
            rw [HF0.out] at hx0
            rw [HF1.out] at hx1
            have hki : (k : Int) < (m : Int) := by omega
            go_wp2_with (fail)
            have hb6 : Below wr.heap.size wr ((wr.alloc (Obj.cells #[.int .i64 f0, .int .i64 f1] 38)).alloc (Obj.cells #[.int .i64 f0, .int .i64 f1, .int .i64 f1, .int .i64 f0] 58)) := ((Below.refl _ _).alloc (Nat.le_refl _) _).alloc (by rw [World.size_alloc]; omega) _
            have hk6 := heap_alloc_new (wr.alloc (Obj.cells #[.int .i64 f0, .int .i64 f1] 38)) (Obj.cells #[.int .i64 f0, .int .i64 f1, .int .i64 f1, .int .i64 f0] 58)
            rw [World.size_alloc] at hk6
            have HK6 := Aside0.mk hk6
            have HB6 := Aside0.mk (below_then HBA.out HBA.out.size hb6)
            clear hb6 hk6 hx0 hx1 HBA
            generalize (wr.alloc (Obj.cells #[.int .i64 f0, .int .i64 f1] 38)).alloc (Obj.cells #[.int .i64 f0, .int .i64 f1, .int .i64 f1, .int .i64 f0] 58) = w6 at HK6 HB6 ⊢
            generalize wr.heap.size = b11 at HK6 ⊢
            generalize b11 + 1 = b64 at HK6 ⊢
            go_loopw [66] (fun i wq => ∃ (j : Nat), i = .int .i64 (j : Int) ∧ j ≤ 2 ∧ Aside0 (Below w6.heap.size w6 wq)) (fun i _ => 2 - (intOf i).toNat)
            case atStart => exact ⟨0, rfl, Nat.zero_le _, ⟨Below.refl _ _⟩⟩
            case round =>
              obtain ⟨j, rfl, hj, HBB⟩ := hrel
              have HBQ := Aside0.mk (below_then HB6.out HB6.out.size HBB.out)
              by_cases hjl : j < 2
              · obtain ⟨u, v, huv, hcu, hcv⟩ : ∃ u v : Int, ((u = f0 ∧ v = f1) ∨ (u = f1 ∧ v = f0)) ∧ wr.cell? ⟨b64, j * 2, none⟩ = some (.int .i64 u) ∧ wr.cell? ⟨b64, j * 2 + 1, none⟩ = some (.int .i64 v) := by
                  have c0 := pw_cell_below HBB.out ((blk_cell HK6.out 0).trans rfl)
                  have c1 := pw_cell_below HBB.out ((blk_cell HK6.out 1).trans rfl)
                  have c2 := pw_cell_below HBB.out ((blk_cell HK6.out 2).trans rfl)
                  have c3 := pw_cell_below HBB.out ((blk_cell HK6.out 3).trans rfl)
                  rcases (show j = 0 ∨ j = 1 by omega) with rfl | rfl
                  · exact ⟨f0, f1, .inl ⟨rfl, rfl⟩, c0, c1⟩
                  · exact ⟨f1, f0, .inr ⟨rfl, rfl⟩, c2, c3⟩
                have HUV := Aside0.mk huv
                have hji : (j : Int) < 2 := by omega
                clear huv
                go_wp2_with (fail)
                have hb7 : Below wr.heap.size wr (wr.alloc (Obj.cells #[.int .i64 u, .int .i64 v] 58)) := (Below.refl _ _).alloc (Nat.le_refl _) _
                have HK13 := Aside0.mk (heap_alloc_new wr (Obj.cells #[.int .i64 u, .int .i64 v] 58))
                replace HBB := Aside0.mk (below_then HBB.out HBB.out.size hb7)
                replace HBQ := Aside0.mk (below_then HBQ.out HBQ.out.size hb7)
                clear hb7 hcu hcv
                generalize wr.alloc (Obj.cells #[.int .i64 u, .int .i64 v] 58) = w7 at HK13 HBB HBQ ⊢
                generalize wr.heap.size = b13 at HK13 ⊢
                refine (law41_at.calls (HM.out.below HBQ.out) HK.out (by omega) u v).mono ?_
                rintro e w8 ⟨rfl, hb8⟩
                replace HK13 := Aside0.mk (blk_below HK13.out hb8)
                replace HBB := Aside0.mk (below_then HBB.out HBB.out.size hb8)
                replace HBQ := Aside0.mk (below_then HBQ.out HBQ.out.size hb8)
                clear hb8
                have HUV2 : Aside0 ((u = ((hierS n l0_1 l1).edges.getD k z38).f0 ∧ v = ((hierS n l0_1 l1).edges.getD k z38).f1) ∨ (u = ((hierS n l0_1 l1).edges.getD k z38).f1 ∧ v = ((hierS n l0_1 l1).edges.getD k z38).f0)) := ⟨by rw [HF0.out, HF1.out]; exact HUV.out⟩
                have HSP := Aside0.mk (HK.out.at_spec (ws := l2) (e := k) (by rw [HME.out]; exact hkl) HWL.out HUV2.out)
                have HAT := Aside0.mk (HK.out.attained hn1 (ws := l2) (e := k) (by rw [HME.out]; exact hkl) HWL.out HWR.out HUV2.out)
                have HAB := Aside0.mk (atS_bound (n := n) (arcs := l0_1) (L := l1) (ws := l2) u v)
                obtain ⟨x, HX⟩ : ∃ x, Aside0 (atS n l0_1 l1 l2 u v = x) := ⟨_, ⟨rfl⟩⟩
                rw [HX.out] at HSP HAT HAB ⊢
                have hcg := (blk_cell (blk_below HBK.out HBQ.out) 1).trans rfl
                go_wp2_with (fail)
                clear hcg
                go_loopw [15, 79] (fun b i wc => ∃ (k2 : Nat), i = .int .i64 (k2 : Int) ∧ k2 ≤ l0_1.length ∧ b = .bool (attA l0_1 l2 u v x k2) ∧ Aside0 (Below w8.heap.size w8 wc)) (fun _ i _ => l0_1.length - (intOf i).toNat)
                case atStart => exact ⟨0, rfl, Nat.zero_le _, rfl, ⟨Below.refl _ _⟩⟩
                case round =>
                  obtain ⟨k2, rfl, hk2, rfl, HBC⟩ := hrel
                  have HBD := Aside0.mk (below_then HBQ.out HBQ.out.size HBC.out)
                  replace HK13 := Aside0.mk (blk_below HK13.out HBC.out)
                  obtain ⟨bo, HBO⟩ : ∃ b, Aside0 (attA l0_1 l2 u v x k2 = b) := ⟨_, ⟨rfl⟩⟩
                  rw [HBO.out]
                  by_cases hkl2 : k2 < l0_1.length
                  · obtain ⟨ge, hA2, hx0, hx1⟩ := at_T38 (Kd.C_below HG.out HBD.out) (k2 : Int) (by omega) (by omega)
                    obtain ⟨ge2, hA3, hz0, _⟩ := at_T38 (Kd.C_below HG.out HBD.out) 0 (by omega) (by omega)
                    obtain rfl : ge2 = ge := Option.some.inj (hA3.symm.trans hA2)
                    have hsp := spot_of_cell (ad := ge2) (by exact hz0)
                    obtain ⟨gb, go, gsb⟩ := ge2
                    injection hsp with hz1 hz2 hes
                    clear hz1 hz2 hz0 hA3
                    subst hes
                    simp only [Addr.add_lit, Int.toNat_natCast] at hx0 hx1
                    subst hA2
                    rcases cells_of_C (Kd.C_below HW.out HBD.out) with ⟨hz, _⟩ | ⟨_, wb, wo, hA1, hce⟩
                    · have := HWL.out; omega
                    subst hA1
                    have hkw : k2 < l2.length := by have := HWL.out; omega
                    have hcw := hce k2 hkw
                    clear hce
                    have HA1 : Aside0 (attA l0_1 l2 u v x (k2 + 1) = (bo || attA1 l0_1 l2 u v x k2)) := ⟨by rw [attA_succ, HBO.out]⟩
                    have HS1 := Aside0.mk (HSP.out.1 k2 hkl2)
                    rw [rd_getD] at hx0 hx1
                    have HA2 : Aside0 (attA1 l0_1 l2 u v x k2 = decide ((l0_1.getD k2 z38).f0 = u ∧ (l0_1.getD k2 z38).f1 = v ∧ 0 ≤ l2.getD k2 0 ∧ l2.getD k2 0 = x)) := ⟨by unfold attA1; rw [rd_getD]⟩
                    obtain ⟨g0, HG0⟩ : ∃ x, Aside0 ((l0_1.getD k2 z38).f0 = x) := ⟨_, ⟨rfl⟩⟩
                    obtain ⟨g1, HG1⟩ : ∃ x, Aside0 ((l0_1.getD k2 z38).f1 = x) := ⟨_, ⟨rfl⟩⟩
                    obtain ⟨y, HY⟩ : ∃ x, Aside0 (l2.getD k2 0 = x) := ⟨_, ⟨rfl⟩⟩
                    rw [HG0.out] at hx0
                    rw [HG1.out] at hx1
                    rw [HY.out] at hcw
                    rw [HG0.out, HG1.out, HY.out] at HS1 HA2
                    have hki2 : (k2 : Int) < (l0_1.length : Int) := by omega
                    have hu0 : wr.cell? ⟨b13, 0, none⟩ = some (.int .i64 u) := blk_cell HK13.out 0
                    have hu1 : wr.cell? ⟨b13, 1, none⟩ = some (.int .i64 v) := blk_cell HK13.out 1
                    have hblt : b13 < wr.heap.size := hblk_lt HK13.out
                    have hwbl : wb < wr.heap.size := World.block_lt_of_cell? _ _ hcw
                    replace HBC := Aside0.mk (below_then HBC.out HBC.out.size ((Below.refl _ _).alloc (Nat.le_refl _) (Obj.cells #[.int .i64 g0, .int .i64 g1] 38)))
                    by_cases hg0 : g0 = u
                    · obtain rfl := hg0.symm
                      by_cases hg1 : g1 = v
                      · obtain rfl := hg1.symm
                        by_cases hy : 0 ≤ y
                        · have hxy : ¬ y < x := by have := HS1.out rfl rfl hy; omega
                          cases bo with
                          | true =>
                            have HR : Aside0 (attA l0_1 l2 u v x (k2 + 1) = true) := ⟨by rw [HA1.out]; rfl⟩
                            go_wp2_with (fail)
                            go_roundw
                            case rel => exact ⟨k2 + 1, by go_num, by omega, by rw [HR.out], HBC⟩
                            case measure => simp [intOf]; omega
                          | false =>
                            have HR : Aside0 (attA l0_1 l2 u v x (k2 + 1) = decide (y = x)) := ⟨by rw [HA1.out, HA2.out]; simp [hy]⟩
                            go_wp2_with (fail)
                            go_roundw
                            case rel => exact ⟨k2 + 1, by go_num, by omega, by rw [HR.out]; rfl, HBC⟩
                            case measure => simp [intOf]; omega
                        · have HR : Aside0 (attA l0_1 l2 u v x (k2 + 1) = bo) := ⟨by rw [HA1.out, HA2.out, decide_eq_false (fun k => hy k.2.2.1)]; simp⟩
                          go_wp2_with (fail)
                          go_roundw
                          case rel => exact ⟨k2 + 1, by go_num, by omega, by rw [HR.out], HBC⟩
                          case measure => simp [intOf]; omega
                      · have HR : Aside0 (attA l0_1 l2 u v x (k2 + 1) = bo) := ⟨by rw [HA1.out, HA2.out, decide_eq_false (fun k => hg1 k.2.1)]; simp⟩
                        go_wp2_with (fail)
                        go_roundw
                        case rel => exact ⟨k2 + 1, by go_num, by omega, by rw [HR.out], HBC⟩
                        case measure => simp [intOf]; omega
                    · have HR : Aside0 (attA l0_1 l2 u v x (k2 + 1) = bo) := ⟨by rw [HA1.out, HA2.out, decide_eq_false (fun k => hg0 k.1)]; simp⟩
                      go_wp2_with (fail)
                      go_roundw
                      case rel => exact ⟨k2 + 1, by go_num, by omega, by rw [HR.out], HBC⟩
                      case measure => simp [intOf]; omega
                  · obtain rfl : k2 = l0_1.length := by omega
                    go_wp2_with (fail)
                    clear hk2 hkl2
                    refine (Hier_Lower.calls (HM.out.below HBD.out).hier HK.out.ok HK.out.ends (HK.out.capd (by omega)) (k : Int)).mono ?_
                    rintro e w9 ⟨lv, rfl, hr9, hb9⟩
                    obtain ⟨ll, HLL⟩ : ∃ x, Aside0 (lowerS (hierS n l0_1 l1) (k : Int) = x) := ⟨_, ⟨rfl⟩⟩
                    rw [HLL.out] at hr9 HAT HSP
                    have hllb : ll.length ≤ 1000000 := by
                      rw [← HLL.out]
                      unfold lowerS
                      split
                      · exact Nat.le_trans (List.length_filter_le _ _) (HK.out.capd6 (by omega) _)
                      · simp
                    obtain ⟨lA, lc, rfl, hlc, hlC⟩ := Kd.R_reads hr9
                    have HLW := Aside0.mk hlC
                    replace HK13 := Aside0.mk (blk_below HK13.out hb9)
                    replace HBB := Aside0.mk (below_then (below_then HBB.out HBB.out.size HBC.out) (below_then HBB.out HBB.out.size HBC.out).size hb9)
                    replace HBQ := Aside0.mk (below_then HBD.out HBD.out.size hb9)
                    clear hr9 hb9 hlc hlC HBC HBD
                    go_wp2_with (fail)
                    obtain ⟨fP, HFP⟩ : ∃ f, Aside0 (atS n l0_1 l1 l2 u = f) := ⟨_, ⟨rfl⟩⟩
                    obtain ⟨fQ, HFQ⟩ : ∃ f, Aside0 ((fun y => atS n l0_1 l1 l2 y v) = f) := ⟨_, ⟨rfl⟩⟩
                    have HPB : Aside0 (∀ z, 0 ≤ fP z ∧ fP z ≤ 1152921504606846976) := ⟨fun z => by rw [← HFP.out]; exact atS_bound u z⟩
                    have HQB : Aside0 (∀ z, 0 ≤ fQ z ∧ fQ z ≤ 1152921504606846976) := ⟨fun z => by rw [← HFQ.out]; exact atS_bound z v⟩
                    have HVIA : Aside0 (∀ z ∈ ll, x ≤ over (fP z) (fQ z)) := ⟨fun z hz => by rw [← HFP.out, ← HFQ.out]; exact HSP.out.2.1 z hz⟩
                    go_loopw [15, 123] (fun b i wc => ∃ (k3 : Nat), i = .int .i64 (k3 : Int) ∧ k3 ≤ ll.length ∧ b = .bool (bo || attV fP fQ x (ll.take k3)) ∧ Aside0 (Below w9.heap.size w9 wc)) (fun _ i _ => ll.length - (intOf i).toNat)
                    case atStart => exact ⟨0, rfl, Nat.zero_le _, by rw [List.take_zero]; show _ = Value.bool (bo || false); rw [Bool.or_false], ⟨Below.refl _ _⟩⟩
                    case round =>
                      obtain ⟨k3, rfl, hk3, rfl, HBC⟩ := hrel
                      have HBD := Aside0.mk (below_then HBQ.out HBQ.out.size HBC.out)
                      replace HK13 := Aside0.mk (blk_below HK13.out HBC.out)
                      obtain ⟨bp, HBP⟩ : ∃ b, Aside0 ((bo || attV fP fQ x (ll.take k3)) = b) := ⟨_, ⟨rfl⟩⟩
                      rw [HBP.out]
                      by_cases hkl3 : k3 < ll.length
                      · rcases cells_of_C (Kd.C_below HLW.out HBC.out) with ⟨hz, _⟩ | ⟨_, lb, lo, hA1, hce⟩
                        · omega
                        subst hA1
                        have hcl := hce k3 hkl3
                        have HMEM := Aside0.mk (HVIA.out (ll.getD k3 0) (by rw [List.getD_eq_getElem?_getD, List.getElem?_eq_getElem hkl3]; exact List.getElem_mem hkl3))
                        have HA1 : Aside0 ((bo || attV fP fQ x (ll.take (k3 + 1))) = (bp || attV1 fP fQ x (ll.getD k3 0))) := ⟨by rw [attV_succ fP fQ x hkl3, ← Bool.or_assoc, HBP.out]⟩
                        obtain ⟨z, HZ⟩ : ∃ z, Aside0 (ll.getD k3 0 = z) := ⟨_, ⟨rfl⟩⟩
                        rw [HZ.out] at hcl HMEM HA1
                        clear hce
                        have hu0 : wr.cell? ⟨b13, 0, none⟩ = some (.int .i64 u) := blk_cell HK13.out 0
                        have hu1 : wr.cell? ⟨b13, 1, none⟩ = some (.int .i64 v) := blk_cell HK13.out 1
                        go_upto_region 25 with (fail)
                        refine s_ (fun w' => w'.cell? ⟨b13, 0, none⟩ = some (.int .i64 u) ∧ w'.cell? ⟨b13, 1, none⟩ = some (.int .i64 v)) [] ⟨hu0, hu1⟩ (fun hHeld => ?_)
                        replace HBC := Aside0.mk (below_then HBC.out HBC.out.size (below_drew (Below.refl _ _)))
                        replace HBD := Aside0.mk (below_then HBD.out HBD.out.size (below_drew (Below.refl _ _)))
                        generalize wr.drew = wd at HBC HBD hHeld ⊢
                        clear hu0 hu1 hcl
                        refine p_ 0 127 ?_
                        refine p_ 1 128 ?_
                        refine t2_ 2 129 hHeld ?_
                        refine p_ 3 130 ?_
                        refine p_ 5 132 ?_
                        refine p_ 6 133 ?_
                        refine p_ 7 134 ?_
                        refine t2_ 8 135 hHeld ?_
                        refine o_ 4 131 (fun K hK => ?_)
                        refine goes_ Try.func38 (by kernel_rfl) rfl #[.pointer (some ⟨q, 0, none⟩), .int .i64 u, .int .i64 z] (by rfl) rfl rfl byL ?_
                        refine (law41_at.calls (HM.out.below HBD.out) HK.out (by omega) u z).mono ?_
                        rintro e wa ⟨rfl, hba⟩
                        refine ⟨_, rfl, ?_⟩
                        refine hK.out _ _ ⟨pw_cell_below hba hHeld.1, pw_cell_below hba hHeld.2⟩ (fun hHeld => ?_)
                        replace HBC := Aside0.mk (below_then HBC.out HBC.out.size hba)
                        replace HBD := Aside0.mk (below_then HBD.out HBD.out.size hba)
                        clear hK K hba
                        refine n_ 131 ?_
                        refine o_ 9 136 (fun K hK => ?_)
                        refine goes_ Try.func38 (by kernel_rfl) rfl #[.pointer (some ⟨q, 0, none⟩), .int .i64 z, .int .i64 v] (by rfl) rfl rfl byL ?_
                        refine (law41_at.calls (HM.out.below HBD.out) HK.out (by omega) z v).mono ?_
                        rintro e wb ⟨rfl, hba⟩
                        refine ⟨_, rfl, ?_⟩
                        refine hK.out _ _ ⟨pw_cell_below hba hHeld.1, pw_cell_below hba hHeld.2⟩ (fun hHeld => ?_)
                        replace HBC := Aside0.mk (below_then HBC.out HBC.out.size hba)
                        replace HBD := Aside0.mk (below_then HBD.out HBD.out.size hba)
                        clear hK K hba
                        refine n_ 136 ?_
                        refine p_ 10 20 ?_
                        refine p_ 11 21 ?_
                        refine d_ ?_
                        have ep : atS n l0_1 l1 l2 u z = fP z := by rw [HFP.out]
                        have eq : atS n l0_1 l1 l2 z v = fQ z := by rw [← HFQ.out]
                        rw [ep, eq]
                        have hpb := HPB.out z
                        have hqb := HQB.out z
                        have HA2 : Aside0 (attV1 fP fQ x z = decide (fP z < 1152921504606846976 ∧ fQ z < 1152921504606846976 ∧ fP z + fQ z = x)) := ⟨rfl⟩
                        have HOV : Aside0 (fP z < 1152921504606846976 → fQ z < 1152921504606846976 → x ≤ fP z + fQ z) := ⟨fun h1 h2 => by
                          have h3 := HMEM.out
                          unfold over mInf at h3
                          rw [if_neg (by omega)] at h3
                          exact h3⟩
                        clear ep eq hHeld
                        generalize fP z = vp at hpb HA2 HOV ⊢
                        generalize fQ z = vq at hqb HA2 HOV ⊢
                        obtain ⟨hp0, hp1⟩ := hpb
                        obtain ⟨hq0, hq1⟩ := hqb
                        by_cases hp : vp < 1152921504606846976
                        · by_cases hq : vq < 1152921504606846976
                          · have hxy : ¬ vp + vq < x := by have := HOV.out hp hq; omega
                            cases bp with
                            | true =>
                              have HR : Aside0 ((bo || attV fP fQ x (ll.take (k3 + 1))) = true) := ⟨by rw [HA1.out]; rfl⟩
                              go_wp2_with (fail)
                              go_roundw
                              case rel => exact ⟨k3 + 1, by go_num, by omega, by rw [HR.out], HBC⟩
                              case measure => simp [intOf]; omega
                            | false =>
                              have HR : Aside0 ((bo || attV fP fQ x (ll.take (k3 + 1))) = decide (vp + vq = x)) := ⟨by rw [HA1.out, HA2.out]; simp [hp, hq]⟩
                              go_wp2_with (fail)
                              go_roundw
                              case rel => exact ⟨k3 + 1, by go_num, by omega, by rw [HR.out]; rfl, HBC⟩
                              case measure => simp [intOf]; omega
                          · have HR : Aside0 ((bo || attV fP fQ x (ll.take (k3 + 1))) = bp) := ⟨by rw [HA1.out, HA2.out, decide_eq_false (fun k => hq k.2.1)]; simp⟩
                            go_wp2_with (fail)
                            go_roundw
                            case rel => exact ⟨k3 + 1, by go_num, by omega, by rw [HR.out], HBC⟩
                            case measure => simp [intOf]; omega
                        · have HR : Aside0 ((bo || attV fP fQ x (ll.take (k3 + 1))) = bp) := ⟨by rw [HA1.out, HA2.out, decide_eq_false (fun k => hp k.1)]; simp⟩
                          go_wp2_with (fail)
                          go_roundw
                          case rel => exact ⟨k3 + 1, by go_num, by omega, by rw [HR.out], HBC⟩
                          case measure => simp [intOf]; omega
                      · obtain rfl : k3 = ll.length := by omega
                        rw [List.take_length] at HBP
                        have hbp : bp = decide (x < 1152921504606846976) := by
                          rw [← HBP.out, ← HBO.out, ← HFP.out, ← HFQ.out]
                          exact HAT.out
                        obtain ⟨ex, ey, hexy, heyn, e0, e1, _⟩ := HK.out.edge_at (i := k) (by rw [HME.out]; exact hkl)
                        have hun : ∃ un vn : Nat, u = (un : Int) ∧ v = (vn : Int) ∧ un < n ∧ vn < n := by
                          have h1 := ord_vx HK.out.ord (show ex < n by omega)
                          have h2 := ord_vx HK.out.ord heyn
                          rw [← e0] at h1
                          rw [← e1] at h2
                          rcases HUV2.out with ⟨rfl, rfl⟩ | ⟨rfl, rfl⟩
                          · exact ⟨_, _, (Int.toNat_of_nonneg h1.1).symm, (Int.toNat_of_nonneg h2.1).symm, by omega, by omega⟩
                          · exact ⟨_, _, (Int.toNat_of_nonneg h2.1).symm, (Int.toNat_of_nonneg h1.1).symm, by omega, by omega⟩
                        obtain ⟨un, vn, hue, hve, hun, hvn⟩ := hun
                        obtain ⟨d, hdi, hev⟩ := dist_ev (n := n) (arcs := l0_1) (ws := l2) (s := un) hun (fun i hi => by
                          have h1 := (chk_ok HK.out.chk).2.2 i hi
                          rw [gA_ _ hi]
                          exact ⟨⟨h1.1, h1.2.1⟩, h1.2.2.1, h1.2.2.2⟩) (by omega) (by omega) HWL.out HWR.out HD.out
                        obtain ⟨kd, hkd⟩ := hev
                        have HKD := Aside0.mk (hkd kd (Nat.le_refl _))
                        have hdv := HK.out.at_dist (ws := l2) (e := k) (u := un) (v := vn) (by rw [HME.out]; exact hkl) HWL.out HWR.out (by rw [← hue, ← hve]; exact HUV2.out) hvn hdi
                        rw [← hue, ← hve, HX.out] at hdv
                        have hdl := hdi.len
                        have HUE := Aside0.mk hue
                        clear hue e0 e1 hexy heyn hdi hkd
                        have hg0 := (blk_cell (blk_below HBK.out HBD.out) 0).trans rfl
                        have hg1 := (blk_cell (blk_below HBK.out HBD.out) 1).trans rfl
                        have hu0 : wr.cell? ⟨b13, 0, none⟩ = some (.int .i64 u) := blk_cell HK13.out 0
                        have hu1 : wr.cell? ⟨b13, 1, none⟩ = some (.int .i64 v) := blk_cell HK13.out 1
                        go_wp2_with (fail)
                        rw [HUE.out]
                        refine (mapmakerref38_From.calls kd (n : Int) A0_1 c0_1 l0_1 A2 c2 l2 (un : Int) d 0 _ (Kd.C_below HG.out HBD.out) HGC.out (Kd.C_below HW.out HBD.out) HWC.out HKD.out).mono ?_
                        rintro e wa ⟨dv, rfl, hra, hba⟩
                        obtain ⟨dA, dc, rfl, hdc, hdC⟩ := Kd.R_reads hra
                        replace hu1 := pw_cell_below hba hu1
                        have HBX := Aside0.mk (below_then (below_then HBB.out HBB.out.size HBC.out) (below_then HBB.out HBB.out.size HBC.out).size hba)
                        rcases cells_of_C hdC with ⟨hz, _⟩ | ⟨_, db, dof, hA1, hce⟩
                        · omega
                        subst hA1
                        have hcd := hce vn (by omega)
                        obtain ⟨y, HY⟩ : ∃ y, Aside0 (d.getD vn 0 = y) := ⟨_, ⟨rfl⟩⟩
                        rw [HY.out] at hcd hdv
                        have hvl : vn < d.length := by omega
                        clear hra hba hdc hdC hce hg0 hg1 hu0 hdl
                        subst hve hbp
                        by_cases hxi : x < 1152921504606846976
                        · go_wp2_with (fail)
                          go_roundw
                          case rel => exact ⟨j + 1, by go_num, by omega, HBX⟩
                          case measure => simp [intOf]; omega
                        · go_wp2_with (fail)
                          go_roundw
                          case rel => exact ⟨j + 1, by go_num, by omega, HBX⟩
                          case measure => simp [intOf]; omega
              · go_wp2_with (fail)
                go_roundw
                case rel => exact ⟨k + 1, by go_num, by omega, HBQ⟩
                case measure => simp [intOf]; omega
          · go_wp2_with (fail)
            refine (mapmakerlaw41_lives.calls _).mono ?_
            rintro e wa ⟨rfl, hba⟩
            have HBF := Aside0.mk (below_then HB.out HB.out.size (below_then HBA.out HBA.out.size hba))
            clear hba
            go_wp2
            go_ret
            exact ⟨rfl, HBF.out⟩
    · go_wp2_with (fail)
      refine (mapmakerlaw41_lives.calls _).mono ?_
      rintro e w3 ⟨rfl, hb3⟩
      replace HB := Aside0.mk (below_then HB.out HB.out.size hb3)
      clear hb3
      go_wp2
      go_ret
      exact ⟨rfl, HB.out⟩
end Go.Proofs.Ytcfeehaoeaoegaa.Print
