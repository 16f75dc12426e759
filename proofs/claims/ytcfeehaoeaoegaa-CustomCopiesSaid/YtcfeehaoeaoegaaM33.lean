/- Several texts of this claim in one: HMRSet, HMSetU. -/
import Derived.Test.YtcfeehaoeaoegaaM32
import Derived.Test.YtcfeehaoeaoegaaM29
namespace Go.Proofs.Ytcfeehaoeaoegaa.Print
open Go.RowKit Go.Proofs.YtcfeehaoeaoegaaW.PrintWords Go.Proofs.YtcfeehaoeaoegaaW.PrintLast Go.Proofs.YtcfeehaoeaoegaaW.PrintMore
set_option linter.unusedVariables false
set_option linter.unusedSimpArgs false

theorem put5 {w : World} {b t : Nat} {a0 a1 a2 a3 a4 c0 c1 c2 c3 c4 : Value} (h : w.heap[b]? = some (.cells #[a0, a1, a2, a3, a4] t (0, 0))) : (((((w.setCell ⟨b, 0, none⟩ c0).setCell ⟨b, 1, none⟩ c1).setCell ⟨b, 2, none⟩ c2).setCell ⟨b, 3, none⟩ c3).setCell ⟨b, 4, none⟩ c4).heap[b]? = some (.cells #[c0, c1, c2, c3, c4] t (0, 0)) := by
 simp [World.setCell, Array.getElem?_modify, h]
theorem below5 {B : Nat} {w0 w : World} {b : Nat} {c0 c1 c2 c3 c4 : Value} (h : Below B w0 w) (hb : B ≤ b) : Below B w0 (((((w.setCell ⟨b, 0, none⟩ c0).setCell ⟨b, 1, none⟩ c1).setCell ⟨b, 2, none⟩ c2).setCell ⟨b, 3, none⟩ c3).setCell ⟨b, 4, none⟩ c4) :=
 hput (hput (hput (hput (hput h _ _ hb) _ _ hb) _ _ hb) _ _ hb) _ _ hb
theorem far5 {w : World} {b k : Nat} {c0 c1 c2 c3 c4 : Value} (h : k ≠ b) : (((((w.setCell ⟨b, 0, none⟩ c0).setCell ⟨b, 1, none⟩ c1).setCell ⟨b, 2, none⟩ c2).setCell ⟨b, 3, none⟩ c3).setCell ⟨b, 4, none⟩ c4).heap[k]? = w.heap[k]? := by
 rw [Below.heap_setCell _ _ _ _ h, Below.heap_setCell _ _ _ _ h, Below.heap_setCell _ _ _ _ h, Below.heap_setCell _ _ _ _ h, Below.heap_setCell _ _ _ _ h]
set_option maxHeartbeats 6400000 in
set_option maxRecDepth 100000 in
theorem ref41_Set.calls {w : World} {n : Nat} {gA : Option Addr} {gc : Nat} {arcs : List S38} {lA : Option Addr} {lc : Nat} {L : List Int} {wA : Option Addr} {wc : Nat} {ws : List Int} {aA : Option Addr} {ac : Nat} {al : List Int} {vA : Option Addr} {vc : Nat} {vs : List Int} (hk : Hk n arcs L) (hn : n ≤ 1000)
  (hg : Kd.C k38 w gA arcs.length arcs) (hgc : arcs.length ≤ gc) (hl : Kd.C (Kd.int .i64) w lA L.length L) (hlc : L.length ≤ lc) (hw : Kd.C (Kd.int .i64) w wA ws.length ws) (hwc : ws.length ≤ wc) (ha : Kd.C (Kd.int .i64) w aA al.length al) (hv : Kd.C (Kd.int .i64) w vA vs.length vs)
  (hal : arcs.length ≤ 1000000) (hwl : ws.length = arcs.length) (hLl : L.length ≤ 1000000) (hll : al.length ≤ 1000000) :
  Calls Try.prog 44 #[.agg #[.bool false, .int .i64 (n : Int), .slice gA arcs.length gc, .slice lA L.length lc, .slice wA ws.length wc], .slice aA al.length ac, .slice vA vs.length vc] w fun e w' => Below w.heap.size w w' ∧
   ((permC (ws.length : Int) al vs ≠ 0 ∧ e = .returned (.tuple #[.agg #[.bool false, .int .i64 (n : Int), .slice gA arcs.length gc, .slice lA L.length lc, .slice wA ws.length wc], .int .i64 0, .int .i64 (permC (ws.length : Int) al vs)])) ∨
    (permC (ws.length : Int) al vs = 0 ∧ ∃ A c, e = .returned (.tuple #[.agg #[.bool false, .int .i64 (n : Int), .slice gA arcs.length gc, .slice lA L.length lc, .slice A ws.length c], .int .i64 (diffN (sdS n arcs L ws).1 (sdS n arcs L ws).2 (sdS n arcs L (wsTo ws al vs al.length)).1 (sdS n arcs L (wsTo ws al vs al.length)).2 (hierS n arcs L).edges.length : Int), .int .i64 0]) ∧
     (∀ W' : World, (∀ k, w.heap.size ≤ k → k < w'.heap.size → W'.heap[k]? = w'.heap[k]?) → Kd.C (Kd.int .i64) W' A ws.length (wsTo ws al vs al.length)) ∧ ws.length ≤ c)) := by
 have HK := Aside0.mk hk
 have HG := Aside0.mk hg
 have HGC := Aside0.mk hgc
 have HL := Aside0.mk hl
 have HLC := Aside0.mk hlc
 have HW := Aside0.mk hw
 have HWC := Aside0.mk hwc
 have HA := Aside0.mk ha
 have HV := Aside0.mk hv
 have HWL := Aside0.mk hwl
 have hwb : ws.length ≤ 1000000 := by omega
 have HSH := Aside0.mk (hk.short hn)
 have HS0 := Aside0.mk (Hk.sides_ev hk false ws hn hal hwl hLl)
 have HS1 := Aside0.mk (Hk.sides_ev hk false (wsTo ws al vs al.length) hn hal ((wsTo_len ..).trans hwl) hLl)
 clear hk hg hgc hl hlc hw hwc ha hv hwl
 by_cases hlen : al.length = vs.length
 ·have HLEN : Aside0 (vs.length = al.length) := ⟨hlen.symm⟩
  have HPC : Aside0 (permC (ws.length : Int) al vs = permL (ws.length : Int) al vs) := ⟨if_pos hlen⟩
  rw [← hlen]
  clear hlen
  go_enter Try.func44, Try.ntmps44
  go_upto_region 6 with (fail)
  have hb2 : Below w.heap.size w ((w.alloc (Obj.cells #[.bool false, .int .i64 (n : Int), .slice gA arcs.length gc, .slice lA L.length lc, .slice wA ws.length wc] 67)).alloc (Obj.cells #[.bool false, .int .i64 0, .slice none 0 0, .slice none 0 0, .slice none 0 0] 67)) := ((Below.refl _ _).alloc (Nat.le_refl _) _).alloc (by rw [World.size_alloc]; omega) _
  have hk3 : ((w.alloc (Obj.cells #[.bool false, .int .i64 (n : Int), .slice gA arcs.length gc, .slice lA L.length lc, .slice wA ws.length wc] 67)).alloc (Obj.cells #[.bool false, .int .i64 0, .slice none 0 0, .slice none 0 0, .slice none 0 0] 67)).heap[w.heap.size]? = some (.cells #[.bool false, .int .i64 (n : Int), .slice gA arcs.length gc, .slice lA L.length lc, .slice wA ws.length wc] 67 (0, 0)) :=
   blk_below (heap_alloc_new w _) ((Below.refl _ _).alloc (Nat.le_refl _) _)
  have hk6 := heap_alloc_new (w.alloc (Obj.cells #[.bool false, .int .i64 (n : Int), .slice gA arcs.length gc, .slice lA L.length lc, .slice wA ws.length wc] 67)) (Obj.cells #[.bool false, .int .i64 0, .slice none 0 0, .slice none 0 0, .slice none 0 0] 67)
  rw [World.size_alloc] at hk6
  have HK3 := Aside0.mk hk3
  have HK6 := Aside0.mk hk6
  have HB := Aside0.mk hb2
  clear hk3 hk6 hb2
  generalize (w.alloc (Obj.cells #[.bool false, .int .i64 (n : Int), .slice gA arcs.length gc, .slice lA L.length lc, .slice wA ws.length wc] 67)).alloc (Obj.cells #[.bool false, .int .i64 0, .slice none 0 0, .slice none 0 0, .slice none 0 0] 67) = w1 at HK3 HK6 HB ⊢
  have d0 := (blk_cell HK3.out 0).trans rfl
  have d1 := (blk_cell HK3.out 1).trans rfl
  have d2 := (blk_cell HK3.out 2).trans rfl
  have d3 := (blk_cell HK3.out 3).trans rfl
  have d4 := (blk_cell HK3.out 4).trans rfl
  obtain ⟨nw, HNW⟩ : ∃ x, Aside0 (ws.length = x) := ⟨_, ⟨rfl⟩⟩
  have hls : w.heap.size + 1 < w1.heap.size := hblk_lt HK6.out
  go_wp2_with (
   refine Kd.R_append_rows (Kd.int .i64) (w0 := w1) w1.heap.size rfl (.tmp 27) (.tmp 29) 25 3 (.int .i64 0) 8 rfl Try.underlying25 info3 rfl (by decide) (by omega) (.slice none 0 0) ([] : List Int) ws _ _ _ (fun _ => True) (fun _ => False) rfl rfl ?aO ?aR (fun _ _ h => h) (fun _ h => h.elim) ?aF ?aB ?aS ?aL ?_
   (case aR => exact Kd.C_below HW.out HB.out)
   (case aO => exact Kd.R_nil _ _ _ _ _)
   (case aF => exact fun _ _ => trivial)
   (case aB => exact Below.refl _ _)
   (case aS => exact Nat.le_refl _)
   (case aL => simp; omega)
   intro v2 w2 ho2 hb2 hg2 hat2
   rw [List.nil_append] at ho2
   have HR2 := Aside0.mk ho2
   have HB2 := Aside0.mk hb2
   clear ho2 hb2 hg2 hat2)
  obtain ⟨A2, c2, rfl⟩ := Kd.R_slice HR2.out
  clear d0 d1 d2 d3 d4
  go_loopw [10] (fun i wr => ∃ (k : Nat), i = .int .i64 (k : Int) ∧ k ≤ al.length ∧ Aside0 (Below w1.heap.size w1 wr) ∧ Aside0 (Kd.R (Kd.int .i64) 3 wr w1.heap.size (fun _ => True) (.slice A2 ws.length c2) (wsTo ws al vs k)) ∧ Aside0 (permL (ws.length : Int) al vs = permL (ws.length : Int) (al.drop k) (vs.drop k)) ∧ Aside0 (∀ j, j < k → 0 ≤ al.getD j 0 ∧ al.getD j 0 < (ws.length : Int))) (fun i _ => al.length - (intOf i).toNat)
  case atStart => exact ⟨0, rfl, Nat.zero_le _, HB2, HR2, ⟨rfl⟩, ⟨fun j hj => by omega⟩⟩
  case round =>
   clear HB2 HR2
   obtain ⟨k, rfl, hk, HB2, HR2, HPD, HRG⟩ := hrel
   have HBW := Aside0.mk (below_then HB.out HB.out.size HB2.out)
   have HK3r := Aside0.mk (blk_below HK3.out HB2.out)
   have HK6r := Aside0.mk (blk_below HK6.out HB2.out)
   have d0 := (blk_cell HK3r.out 0).trans rfl
   have d1 := (blk_cell HK3r.out 1).trans rfl
   have d2 := (blk_cell HK3r.out 2).trans rfl
   have d3 := (blk_cell HK3r.out 3).trans rfl
   have d4 := (blk_cell HK3r.out 4).trans rfl
   have e0 := (blk_cell HK6r.out 0).trans rfl
   have e1 := (blk_cell HK6r.out 1).trans rfl
   have e2 := (blk_cell HK6r.out 2).trans rfl
   have e3 := (blk_cell HK6r.out 3).trans rfl
   have e4 := (blk_cell HK6r.out 4).trans rfl
   have g0 : wr.frozen? ⟨w.heap.size + 1, 0, none⟩ = false := blk_frozen HK6r.out 0
   have g1 : wr.frozen? ⟨w.heap.size + 1, 1, none⟩ = false := blk_frozen HK6r.out 1
   have g2 : wr.frozen? ⟨w.heap.size + 1, 2, none⟩ = false := blk_frozen HK6r.out 2
   have g3 : wr.frozen? ⟨w.heap.size + 1, 3, none⟩ = false := blk_frozen HK6r.out 3
   have g4 : wr.frozen? ⟨w.heap.size + 1, 4, none⟩ = false := blk_frozen HK6r.out 4
   by_cases hkl : k < al.length
   ·have hkv : k < vs.length := by rw [HLEN.out]; exact hkl
    rcases cells_of_C (Kd.C_below HA.out HBW.out) with ⟨hz, _⟩ | ⟨_, ab, ao, hA1, hce⟩
    ·omega
    subst hA1
    have hca := hce k hkl
    clear hce
    rcases cells_of_C (Kd.C_below HV.out HBW.out) with ⟨hz, _⟩ | ⟨_, vb, vo, hA1, hce⟩
    ·have := HLEN.out; omega
    subst hA1
    have hcv := hce k hkv
    clear hce
    have HN : Aside0 (permC (ws.length : Int) al vs = if al.getD k 0 < 0 ∨ al.getD k 0 ≥ (ws.length : Int) then 2 else if vs.getD k 0 < -1 ∨ vs.getD k 0 > 1073741824 then 17 else permL (ws.length : Int) (al.drop (k + 1)) (vs.drop (k + 1))) := ⟨by rw [HPC.out, HPD.out, permL_drop hkl hkv]⟩
    have HWS : Aside0 (wsTo ws al vs (k + 1) = (wsTo ws al vs k).set (al.getD k 0).toNat (vs.getD k 0)) := ⟨rfl⟩
    obtain ⟨a, HAK⟩ : ∃ a, Aside0 (al.getD k 0 = a) := ⟨_, ⟨rfl⟩⟩
    obtain ⟨v, HVK⟩ : ∃ a, Aside0 (vs.getD k 0 = a) := ⟨_, ⟨rfl⟩⟩
    rw [HAK.out] at hca HN HWS
    rw [HVK.out] at hcv HN HWS
    clear hkv
    by_cases ha0 : a < 0
    ·have HR : Aside0 (permC (ws.length : Int) al vs = 2) := ⟨by rw [HN.out, if_pos (.inl ha0)]⟩
     go_wp2_with (fail)
     refine bodyPost_ret (results_ctt rfl _ _ (w.heap.size + 1) 67 #[.bool false, .int .i64 (n : Int), .slice gA arcs.length gc, .slice lA L.length lc, .slice wA ws.length wc] (0, 0) _ rfl (put5 HK6r.out) Try.underlying67 rfl (by kernel_rfl)) rfl ?_
     exact ⟨below5 HBW.out (by omega), .inl ⟨by rw [HR.out]; decide, by rw [HR.out]; rfl⟩⟩
    ·by_cases ha1 : a ≥ (ws.length : Int)
     ·have HR : Aside0 (permC (ws.length : Int) al vs = 2) := ⟨by rw [HN.out, if_pos (.inr ha1)]⟩
      go_wp2_with (fail)
      refine bodyPost_ret (results_ctt rfl _ _ (w.heap.size + 1) 67 #[.bool false, .int .i64 (n : Int), .slice gA arcs.length gc, .slice lA L.length lc, .slice wA ws.length wc] (0, 0) _ rfl (put5 HK6r.out) Try.underlying67 rfl (by kernel_rfl)) rfl ?_
      exact ⟨below5 HBW.out (by omega), .inl ⟨by rw [HR.out]; decide, by rw [HR.out]; rfl⟩⟩
     ·by_cases hv0 : v < -1
      ·have HR : Aside0 (permC (ws.length : Int) al vs = 17) := ⟨by rw [HN.out, if_neg (by omega), if_pos (.inl hv0)]⟩
       go_wp2_with (fail)
       refine bodyPost_ret (results_ctt rfl _ _ (w.heap.size + 1) 67 #[.bool false, .int .i64 (n : Int), .slice gA arcs.length gc, .slice lA L.length lc, .slice wA ws.length wc] (0, 0) _ rfl (put5 HK6r.out) Try.underlying67 rfl (by kernel_rfl)) rfl ?_
       exact ⟨below5 HBW.out (by omega), .inl ⟨by rw [HR.out]; decide, by rw [HR.out]; rfl⟩⟩
      ·by_cases hv1 : v > 1073741824
       ·have HR : Aside0 (permC (ws.length : Int) al vs = 17) := ⟨by rw [HN.out, if_neg (by omega), if_pos (.inr hv1)]⟩
        go_wp2_with (fail)
        refine bodyPost_ret (results_ctt rfl _ _ (w.heap.size + 1) 67 #[.bool false, .int .i64 (n : Int), .slice gA arcs.length gc, .slice lA L.length lc, .slice wA ws.length wc] (0, 0) _ rfl (put5 HK6r.out) Try.underlying67 rfl (by kernel_rfl)) rfl ?_
        exact ⟨below5 HBW.out (by omega), .inl ⟨by rw [HR.out]; decide, by rw [HR.out]; rfl⟩⟩
       ·have HPN : Aside0 (permL (ws.length : Int) al vs = permL (ws.length : Int) (al.drop (k + 1)) (vs.drop (k + 1))) := ⟨by rw [← HPC.out, HN.out, if_neg (by omega), if_neg (by omega)]⟩
        obtain ⟨x, rfl⟩ := Int.eq_ofNat_of_zero_le (show 0 ≤ a by omega)
        rw [Int.toNat_natCast] at HWS
        have HRG2 : Aside0 (∀ j, j < k + 1 → 0 ≤ al.getD j 0 ∧ al.getD j 0 < (ws.length : Int)) := ⟨fun j hj => by
         by_cases hjk : j = k
         ·subst hjk
          rw [HAK.out]
          omega
         ·exact HRG.out j (by omega)⟩
        have hxl : x < ws.length := by omega
        have HWSL := Aside0.mk (wsTo_len ws al vs k)
        obtain ⟨wg, wcap, hwv, hwlo, _, _⟩ := Kd.R_form HR2.out (by rw [HWSL.out]; omega)
        rw [HWSL.out] at hwv
        injection hwv with hw1 hw2 hw3
        subst hw1 hw3
        clear d0 d1 d2 d3 d4 e0 e1 e2 e3 e4 g0 g1 g2 g3 g4 hw2
        go_upto_region 14 with (fail)
        refine s_ (fun w' => w'.cell? ⟨ab, ao + k, none⟩ = some (.int .i64 (x : Int)) ∧ w'.cell? ⟨vb, vo + k, none⟩ = some (.int .i64 v)) [10] ⟨hca, hcv⟩ (fun hHeld => ?_)
        replace HR2 := Aside0.mk (Kd.R_drew HR2.out)
        replace HB2 := Aside0.mk (below_drew HB2.out)
        generalize wr.drew = wd at HR2 HB2 hHeld ⊢
        clear hca hcv
        refine p_ 0 65 ?_
        refine p_ 1 66 ?_
        refine p_ 2 67 ?_
        refine p_ 3 68 ?_
        refine t2_ 4 69 hHeld ?_
        refine p_ 5 70 ?_
        refine p_ 6 71 ?_
        refine p_ 7 72 ?_
        refine t2_ 8 73 hHeld ?_
        refine p_ 9 74 ?_
        have hcu := Kd.R_cell (enc := Value.int .i64) (h1 := fun _ => rfl) (0 : Int) (cap := c2) (g := wg) (by rw [HWSL.out]; exact HR2.out) (x : Int) (by omega) (by rw [HWSL.out]; omega)
        rw [Int.toNat_natCast] at hcu
        obtain ⟨hcu, hfu⟩ := hcu
        have HR3 := Aside0.mk (Kd.R_put (enc := Value.int .i64) (h1 := fun _ => rfl) (cap := c2) (g := wg) (e := 3) (by rw [HWSL.out]; exact HR2.out) (x : Int) v).1
        rw [Int.toNat_natCast, HWSL.out, ← HWS.out] at HR3
        have HB3 := Aside0.mk (hput HB2.out ⟨wg, x, none⟩ (.int .i64 v) hwlo)
        refine l_ 10 (fun K hK => ?_)
        refine skip_ (w1 := ?_) (by rfl) rfl ?_ ?_
        rotate_left; (·go_simp; rfl)
        refine hK.out _ _ ?_
        clear hK K hcu hfu hHeld HR2 HB2
        refine d_ ?_
        generalize wd.setCell ⟨wg, x, none⟩ (.int .i64 v) = w9 at HR3 HB3 ⊢
        go_wp2_with (fail)
        go_roundw
        case rel => exact ⟨k + 1, by go_num, by omega, HB3, HR3, HPN, HRG2⟩
        case measure => simp [intOf]; omega
   ·obtain rfl : k = al.length := by omega
    have HPZ : Aside0 (permC (ws.length : Int) al vs = 0) := ⟨by rw [HPC.out, HPD.out, List.drop_of_length_le (by omega)]; unfold permL; rfl⟩
    have hl3 : w.heap.size < wr.heap.size := hblk_lt HK3r.out
    clear e0 e1 e2 e3 e4 g0 g1 g2 g3 g4
    go_wp2_with (fail)
    clear d0 d1 d2 d3 d4
    have HWB := Aside0.mk (below_then HB.out HB.out.size HB2.out)
    have HK3r := Aside0.mk (blk_below HK3.out HB2.out)
    have HK6r := Aside0.mk (blk_below HK6.out HB2.out)
    have hba : Below wr.heap.size wr (wr.alloc (Obj.cells #[.bool false, .int .i64 (n : Int), .slice gA arcs.length gc, .slice lA L.length lc, .slice A2 ws.length c2] 67)) := (Below.refl _ _).alloc (Nat.le_refl _) _
    have HK1 := Aside0.mk (heap_alloc_new wr (Obj.cells #[.bool false, .int .i64 (n : Int), .slice gA arcs.length gc, .slice lA L.length lc, .slice A2 ws.length c2] 67))
    obtain ⟨q1, HQ1⟩ : ∃ x, Aside0 (wr.heap.size = x) := ⟨_, ⟨rfl⟩⟩
    have HQL : Aside0 (w.heap.size + 1 < q1) := ⟨by rw [← HQ1.out]; exact hblk_lt HK6r.out⟩
    obtain ⟨hc9, hc3, hC3⟩ := Kd.R_reads' HR2.out
    clear hc9
    have HRR := Aside0.mk (Kd.R_below HR2.out hba)
    rw [wsTo_len] at hC3
    have HR := Aside0.mk (Kd.C_below hC3 hba)
    have HRC := Aside0.mk hc3
    replace HWB := Aside0.mk (below_then HWB.out HWB.out.size hba)
    replace HK6r := Aside0.mk (blk_below HK6r.out hba)
    rw [HQ1.out] at HK1
    rw [HQ1.out]
    have hbaw := below_then (Below.refl w.heap.size w) (Nat.le_refl _) HWB.out
    clear HB2 HR2 HK3r hba hc3 hC3 hbaw
    clear hl3
    generalize wr.alloc (Obj.cells #[.bool false, .int .i64 (n : Int), .slice gA arcs.length gc, .slice lA L.length lc, .slice A2 ws.length c2] 67) = w4 at HK1 HR HRR HWB HK6r ⊢
    have HGr := Aside0.mk (Kd.C_below HG.out HWB.out)
    have HLr := Aside0.mk (Kd.C_below HL.out HWB.out)
    have HWr := Aside0.mk (Kd.C_below HW.out HWB.out)
    obtain ⟨ks, hks⟩ := HS0.out
    obtain ⟨ks1, hks1⟩ := HS1.out
    have HKS := Aside0.mk (hks ks (Nat.le_refl _))
    have HKS1 := Aside0.mk (hks1 ks1 (Nat.le_refl _))
    have HSL := Aside0.mk (sdS_len n arcs L ws)
    have HSL1 := Aside0.mk (sdS_len n arcs L (wsTo ws al vs al.length))
    clear hks hks1
    obtain ⟨U0, D0, HU0⟩ : ∃ U D, Aside0 (sdS n arcs L ws = (U, D)) := ⟨_, _, ⟨rfl⟩⟩
    obtain ⟨U1, D1, HU1⟩ : ∃ U D, Aside0 (sdS n arcs L (wsTo ws al vs al.length) = (U, D)) := ⟨_, _, ⟨rfl⟩⟩
    rw [HU0.out] at HKS HSL
    rw [HU1.out] at HKS1 HSL1
    refine (mapmakerref41_Sides.calls ks false (n : Int) gA gc arcs lA lc L wA wc ws U0 D0 w4 HGr.out HGC.out HLr.out HLC.out HWr.out HWC.out HKS.out).mono ?_
    rintro e w5 ⟨v0, v1, rfl, hr0, hr1, hb5⟩
    obtain ⟨uA, uc, rfl, huc, huC⟩ := Kd.R_reads hr0
    obtain ⟨dA, dc, rfl, hdc, hdC⟩ := Kd.R_reads hr1
    replace HK1 := Aside0.mk (blk_below HK1.out hb5)
    replace HK6r := Aside0.mk (blk_below HK6r.out hb5)
    replace HR := Aside0.mk (Kd.C_below HR.out hb5)
    replace HRR := Aside0.mk (Kd.R_below HRR.out hb5)
    replace HWB := Aside0.mk (below_then HWB.out HWB.out.size hb5)
    replace HGr := Aside0.mk (Kd.C_below HG.out HWB.out)
    replace HLr := Aside0.mk (Kd.C_below HL.out HWB.out)
    have d0 := (blk_cell HK1.out 0).trans rfl
    have d1 := (blk_cell HK1.out 1).trans rfl
    have d2 := (blk_cell HK1.out 2).trans rfl
    have d3 := (blk_cell HK1.out 3).trans rfl
    have d4 := (blk_cell HK1.out 4).trans rfl
    have HC0 := Aside0.mk huC
    have HC1 := Aside0.mk hdC
    clear hr0 hr1 hb5 huc hdc huC hdC HWr
    go_wp2_with (fail)
    have hS1 := (mapmakerref41_Sides.calls ks1 false (n : Int) gA gc arcs lA lc L A2 c2 (wsTo ws al vs al.length) U1 D1 w5 HGr.out HGC.out HLr.out HLC.out (by rw [wsTo_len]; exact HR.out) (by rw [wsTo_len]; exact HRC.out) HKS1.out)
    rw [wsTo_len] at hS1
    refine hS1.mono ?_
    clear hS1
    rintro e w6 ⟨v0, v1, rfl, hr0, hr1, hb5⟩
    obtain ⟨vA', vc', rfl, huc, huC⟩ := Kd.R_reads hr0
    obtain ⟨eA, ec, rfl, hdc, hdC⟩ := Kd.R_reads hr1
    replace HK1 := Aside0.mk (blk_below HK1.out hb5)
    replace HK6r := Aside0.mk (blk_below HK6r.out hb5)
    replace HR := Aside0.mk (Kd.C_below HR.out hb5)
    replace HRR := Aside0.mk (Kd.R_below HRR.out hb5)
    replace HWB := Aside0.mk (below_then HWB.out HWB.out.size hb5)
    replace HC0 := Aside0.mk (Kd.C_below HC0.out hb5)
    replace HC1 := Aside0.mk (Kd.C_below HC1.out hb5)
    have HC2 := Aside0.mk huC
    have HC3 := Aside0.mk hdC
    clear hr0 hr1 hb5 huc hdc huC hdC HGr HLr d0 d1 d2 d3 d4
    have HL1 : Aside0 (D0.length = U0.length ∧ U1.length = U0.length ∧ D1.length = U0.length ∧ (hierS n arcs L).edges.length = U0.length) := ⟨by
     have a1 := HSL.out
     have a2 := HSL1.out
     omega⟩
    go_wp2_with (fail)
    go_loopw [16, 17] (fun c i wr => ∃ (k : Nat), i = .int .i64 (k : Int) ∧ k ≤ U0.length ∧ c = .int .i64 (diffN U0 D0 U1 D1 k : Int) ∧ diffN U0 D0 U1 D1 k ≤ k ∧ Aside0 (Below w6.heap.size w6 wr)) (fun _ i _ => U0.length - (intOf i).toNat)
    case atStart => exact ⟨0, rfl, Nat.zero_le _, rfl, Nat.le_refl _, ⟨Below.refl _ _⟩⟩
    case round =>
     obtain ⟨k, rfl, hk, rfl, hdk, HBL⟩ := hrel
     by_cases hkl : k < U0.length
     ·have hDS := diffN_succ U0 D0 U1 D1 k
      rcases cells_of_C (Kd.C_below HC0.out HBL.out) with ⟨hz, _⟩ | ⟨_, ab, ao, hA1, hce⟩
      ·omega
      subst hA1
      have hca := hce k hkl
      clear hce
      rcases cells_of_C (Kd.C_below HC1.out HBL.out) with ⟨hz, _⟩ | ⟨_, bb, bo, hA1, hce⟩
      ·have := HL1.out.1; omega
      subst hA1
      have hcb := hce k (by rw [HL1.out.1]; exact hkl)
      clear hce
      rcases cells_of_C (Kd.C_below HC2.out HBL.out) with ⟨hz, _⟩ | ⟨_, cb, co, hA1, hce⟩
      ·have := HL1.out.2.1; omega
      subst hA1
      have hcc := hce k (by rw [HL1.out.2.1]; exact hkl)
      clear hce
      rcases cells_of_C (Kd.C_below HC3.out HBL.out) with ⟨hz, _⟩ | ⟨_, db, dof, hA1, hce⟩
      ·have := HL1.out.2.2.1; omega
      subst hA1
      have hcd := hce k (by rw [HL1.out.2.2.1]; exact hkl)
      clear hce
      have HD1 : Aside0 (k < D0.length ∧ k < U1.length ∧ k < D1.length) := ⟨by have := HL1.out; omega⟩
      have e0 : D0.length = U0.length := HL1.out.1
      have e1 : U1.length = U0.length := HL1.out.2.1
      have e2 : D1.length = U0.length := HL1.out.2.2.1
      rw [e0, e1, e2]
      clear e0 e1 e2
      obtain ⟨xu, HXU⟩ : ∃ x, Aside0 (U0.getD k 0 = x) := ⟨_, ⟨rfl⟩⟩
      obtain ⟨xd, HXD⟩ : ∃ x, Aside0 (D0.getD k 0 = x) := ⟨_, ⟨rfl⟩⟩
      obtain ⟨yu, HYU⟩ : ∃ x, Aside0 (U1.getD k 0 = x) := ⟨_, ⟨rfl⟩⟩
      obtain ⟨yd, HYD⟩ : ∃ x, Aside0 (D1.getD k 0 = x) := ⟨_, ⟨rfl⟩⟩
      rw [HXU.out] at hca hDS
      rw [HXD.out] at hcb hDS
      rw [HYU.out] at hcc hDS
      rw [HYD.out] at hcd hDS
      have HDS := Aside0.mk hDS
      clear hDS
      clear HXU HXD HYU HYD
      go_upto_region 22 with (fail)
      refine s_ (fun w' => w'.cell? ⟨ab, ao + k, none⟩ = some (.int .i64 xu) ∧ w'.cell? ⟨bb, bo + k, none⟩ = some (.int .i64 xd) ∧ w'.cell? ⟨cb, co + k, none⟩ = some (.int .i64 yu) ∧ w'.cell? ⟨db, dof + k, none⟩ = some (.int .i64 yd)) [] ⟨hca, hcb, hcc, hcd⟩ (fun hHeld => ?_)
      replace HBL := Aside0.mk (below_then HBL.out HBL.out.size (below_drew (Below.refl _ _)))
      generalize wr.drew = wd at HBL hHeld ⊢
      clear hca hcb hcc hcd
      by_cases hu : xu = yu
      ·subst hu
       by_cases hd : xd = yd
       ·subst hd
        have HE : Aside0 (diffN U0 D0 U1 D1 (k + 1) = diffN U0 D0 U1 D1 k) := ⟨by rw [HDS.out, if_pos ⟨rfl, rfl⟩]⟩
        refine p_ 0 97 ?_
        refine p_ 1 98 ?_
        refine p_ 2 99 ?_
        refine t4_ 3 100 hHeld ?_
        refine p_ 4 101 ?_
        refine p_ 5 102 ?_
        refine p_ 6 103 ?_
        refine t4_ 7 104 hHeld ?_
        refine p_ 8 105 ?_
        refine p_ 9 106 ?_
        refine p_ 10 107 ?_
        refine p_ 11 108 ?_
        refine p_ 12 109 ?_
        refine t4_ 13 110 hHeld ?_
        refine p_ 14 111 ?_
        refine p_ 15 112 ?_
        refine p_ 16 113 ?_
        refine t4_ 17 114 hHeld ?_
        refine p_ 18 115 ?_
        refine p_ 19 116 ?_
        refine d_ ?_
        clear hHeld
        have hul : U0.length ≤ 1000000 := by have h1 := HSH.out; have h2 := HL1.out.2.2.2; omega
        go_wp2_with (fail)
        go_roundw
        case rel => exact ⟨k + 1, by go_num, by omega, by rw [HE.out], by rw [HE.out]; omega, HBL⟩
        case measure => simp [intOf]; omega
       ·have HE : Aside0 (diffN U0 D0 U1 D1 (k + 1) = diffN U0 D0 U1 D1 k + 1) := ⟨by rw [HDS.out, if_neg (fun h => hd h.2)]⟩
        refine p_ 0 97 ?_
        refine p_ 1 98 ?_
        refine p_ 2 99 ?_
        refine t4_ 3 100 hHeld ?_
        refine p_ 4 101 ?_
        refine p_ 5 102 ?_
        refine p_ 6 103 ?_
        refine t4_ 7 104 hHeld ?_
        refine p_ 8 105 ?_
        refine p_ 9 106 ?_
        refine p_ 10 107 ?_
        refine p_ 11 108 ?_
        refine p_ 12 109 ?_
        refine t4_ 13 110 hHeld ?_
        refine p_ 14 111 ?_
        refine p_ 15 112 ?_
        refine p_ 16 113 ?_
        refine t4_ 17 114 hHeld ?_
        refine p_ 18 115 ?_
        refine p_ 19 116 ?_
        refine d_ ?_
        clear hHeld
        have hul : U0.length ≤ 1000000 := by have h1 := HSH.out; have h2 := HL1.out.2.2.2; omega
        go_wp2_with (fail)
        go_roundw
        case rel => exact ⟨k + 1, by go_num, by omega, by rw [HE.out]; go_num, by rw [HE.out]; omega, HBL⟩
        case measure => simp [intOf]; omega
      ·have HE : Aside0 (diffN U0 D0 U1 D1 (k + 1) = diffN U0 D0 U1 D1 k + 1) := ⟨by rw [HDS.out, if_neg (fun h => hu h.1)]⟩
       refine p_ 0 97 ?_
       refine p_ 1 98 ?_
       refine p_ 2 99 ?_
       refine t4_ 3 100 hHeld ?_
       refine p_ 4 101 ?_
       refine p_ 5 102 ?_
       refine p_ 6 103 ?_
       refine t4_ 7 104 hHeld ?_
       refine p_ 8 105 (v := .bool true) ?_ (hy := Or.inl ⟨by rfl, by intro w2; go_simp⟩)
       refine p_ 9 106 ?_
       refine p_ 10 107 (v := undef) ?_ (hy := Or.inr ⟨by rfl, by rfl⟩)
       refine p_ 11 108 (v := undef) ?_ (hy := Or.inr ⟨by rfl, by rfl⟩)
       refine p_ 12 109 (v := undef) ?_ (hy := Or.inr ⟨by rfl, by rfl⟩)
       refine p_ 13 110 (v := undef) ?_ (hy := Or.inr ⟨by rfl, by rfl⟩)
       refine p_ 14 111 (v := undef) ?_ (hy := Or.inr ⟨by rfl, by rfl⟩)
       refine p_ 15 112 (v := undef) ?_ (hy := Or.inr ⟨by rfl, by rfl⟩)
       refine p_ 16 113 (v := undef) ?_ (hy := Or.inr ⟨by rfl, by rfl⟩)
       refine p_ 17 114 (v := undef) ?_ (hy := Or.inr ⟨by rfl, by rfl⟩)
       refine p_ 18 115 (v := undef) ?_ (hy := Or.inr ⟨by rfl, by rfl⟩)
       refine p_ 19 116 ?_
       refine d_ ?_
       clear hHeld
       have hul : U0.length ≤ 1000000 := by have h1 := HSH.out; have h2 := HL1.out.2.2.2; omega
       go_wp2_with (fail)
       go_roundw
       case rel => exact ⟨k + 1, by go_num, by omega, by rw [HE.out]; go_num, by rw [HE.out]; omega, HBL⟩
       case measure => simp [intOf]; omega
     ·obtain rfl : k = U0.length := by omega
      replace HK1 := Aside0.mk (blk_below HK1.out HBL.out)
      replace HK6r := Aside0.mk (blk_below HK6r.out HBL.out)
      replace HRR := Aside0.mk (Kd.R_below HRR.out HBL.out)
      clear HR HC0 HC1 HC2 HC3
      replace HWB := Aside0.mk (below_then HWB.out HWB.out.size HBL.out)
      have d0 := (blk_cell HK1.out 0).trans rfl
      have d1 := (blk_cell HK1.out 1).trans rfl
      have d2 := (blk_cell HK1.out 2).trans rfl
      have d3 := (blk_cell HK1.out 3).trans rfl
      have d4 := (blk_cell HK1.out 4).trans rfl
      have e0 := (blk_cell HK6r.out 0).trans rfl
      have e1 := (blk_cell HK6r.out 1).trans rfl
      have e2 := (blk_cell HK6r.out 2).trans rfl
      have e3 := (blk_cell HK6r.out 3).trans rfl
      have e4 := (blk_cell HK6r.out 4).trans rfl
      have g0 : wr.frozen? ⟨w.heap.size + 1, 0, none⟩ = false := blk_frozen HK6r.out 0
      have g1 : wr.frozen? ⟨w.heap.size + 1, 1, none⟩ = false := blk_frozen HK6r.out 1
      have g2 : wr.frozen? ⟨w.heap.size + 1, 2, none⟩ = false := blk_frozen HK6r.out 2
      have g3 : wr.frozen? ⟨w.heap.size + 1, 3, none⟩ = false := blk_frozen HK6r.out 3
      have g4 : wr.frozen? ⟨w.heap.size + 1, 4, none⟩ = false := blk_frozen HK6r.out 4
      go_wp2_with (fail)
      refine bodyPost_ret (results_ctt rfl _ _ (w.heap.size + 1) 67 #[.bool false, .int .i64 (n : Int), .slice gA arcs.length gc, .slice lA L.length lc, .slice A2 ws.length c2] (0, 0) _ rfl (put5 HK6r.out) Try.underlying67 rfl (by kernel_rfl)) rfl ?_
      refine ⟨below5 HWB.out (by omega), .inr ⟨HPZ.out, A2, c2, by rw [HU0.out, HU1.out, HL1.out.2.2.2]; rfl, ?_, HRC.out⟩⟩
      have hf : ∀ W : World, (∀ k, w1.heap.size ≤ k → k < wr.heap.size → W.heap[k]? = wr.heap[k]?) → Kd.C (Kd.int .i64) W A2 ws.length (wsTo ws al vs al.length) := fun W hW => by
       have h := (Kd.R_reads' (Kd.R_move (Kd.R_bound HRR.out) (w1 := W) (fun k hk => hW k hk.2.1 hk.2.2.1))).2.2
       rw [wsTo_len] at h
       exact h
      exact fun W' hW' => hf W' (fun k h1 h2 => (hW' k (by omega) (by rw [setCell_size, setCell_size, setCell_size, setCell_size, setCell_size]; exact h2)).trans (far5 (by omega)))
 ·have hpc : permC (ws.length : Int) al vs = 12 := if_neg hlen
  have HPC := Aside0.mk hpc
  have hli : ¬ ((al.length : Int) = (vs.length : Int)) := by omega
  clear hpc hlen
  go_enter Try.func44, Try.ntmps44
  go_upto_region 4 with (fail)
  have hb2 : Below w.heap.size w ((w.alloc (Obj.cells #[.bool false, .int .i64 (n : Int), .slice gA arcs.length gc, .slice lA L.length lc, .slice wA ws.length wc] 67)).alloc (Obj.cells #[.bool false, .int .i64 0, .slice none 0 0, .slice none 0 0, .slice none 0 0] 67)) := ((Below.refl _ _).alloc (Nat.le_refl _) _).alloc (by rw [World.size_alloc]; omega) _
  have hk3 : ((w.alloc (Obj.cells #[.bool false, .int .i64 (n : Int), .slice gA arcs.length gc, .slice lA L.length lc, .slice wA ws.length wc] 67)).alloc (Obj.cells #[.bool false, .int .i64 0, .slice none 0 0, .slice none 0 0, .slice none 0 0] 67)).heap[w.heap.size]? = some (.cells #[.bool false, .int .i64 (n : Int), .slice gA arcs.length gc, .slice lA L.length lc, .slice wA ws.length wc] 67 (0, 0)) :=
   blk_below (heap_alloc_new w _) ((Below.refl _ _).alloc (Nat.le_refl _) _)
  have hk6 := heap_alloc_new (w.alloc (Obj.cells #[.bool false, .int .i64 (n : Int), .slice gA arcs.length gc, .slice lA L.length lc, .slice wA ws.length wc] 67)) (Obj.cells #[.bool false, .int .i64 0, .slice none 0 0, .slice none 0 0, .slice none 0 0] 67)
  rw [World.size_alloc] at hk6
  have HK3 := Aside0.mk hk3
  have HK6 := Aside0.mk hk6
  have HB := Aside0.mk hb2
  clear hk3 hk6 hb2
  generalize (w.alloc (Obj.cells #[.bool false, .int .i64 (n : Int), .slice gA arcs.length gc, .slice lA L.length lc, .slice wA ws.length wc] 67)).alloc (Obj.cells #[.bool false, .int .i64 0, .slice none 0 0, .slice none 0 0, .slice none 0 0] 67) = w1 at HK3 HK6 HB ⊢
  have d0 := (blk_cell HK3.out 0).trans rfl
  have d1 := (blk_cell HK3.out 1).trans rfl
  have d2 := (blk_cell HK3.out 2).trans rfl
  have d3 := (blk_cell HK3.out 3).trans rfl
  have d4 := (blk_cell HK3.out 4).trans rfl
  have e0 := (blk_cell HK6.out 0).trans rfl
  have e1 := (blk_cell HK6.out 1).trans rfl
  have e2 := (blk_cell HK6.out 2).trans rfl
  have e3 := (blk_cell HK6.out 3).trans rfl
  have e4 := (blk_cell HK6.out 4).trans rfl
  have g0 : w1.frozen? ⟨w.heap.size + 1, 0, none⟩ = false := blk_frozen HK6.out 0
  have g1 : w1.frozen? ⟨w.heap.size + 1, 1, none⟩ = false := blk_frozen HK6.out 1
  have g2 : w1.frozen? ⟨w.heap.size + 1, 2, none⟩ = false := blk_frozen HK6.out 2
  have g3 : w1.frozen? ⟨w.heap.size + 1, 3, none⟩ = false := blk_frozen HK6.out 3
  have g4 : w1.frozen? ⟨w.heap.size + 1, 4, none⟩ = false := blk_frozen HK6.out 4
  go_wp2_with (fail)
  refine bodyPost_ret (results_ctt rfl _ _ (w.heap.size + 1) 67 #[.bool false, .int .i64 (n : Int), .slice gA arcs.length gc, .slice lA L.length lc, .slice wA ws.length wc] (0, 0) _ rfl (put5 HK6.out) Try.underlying67 rfl (by kernel_rfl)) rfl ?_
  exact ⟨below5 HB.out (by omega), .inl ⟨by rw [HPC.out]; decide, by rw [HPC.out]; rfl⟩⟩
end Go.Proofs.Ytcfeehaoeaoegaa.Print
namespace Go.Proofs.Ytcfeehaoeaoegaa.Print
open Go.RowKit Go.Proofs.YtcfeehaoeaoegaaW.PrintWords Go.Proofs.YtcfeehaoeaoegaaW.PrintLast Go.Proofs.YtcfeehaoeaoegaaW.PrintMore
set_option linter.unusedVariables false
set_option linter.unusedSimpArgs false

def setW (ws al vs : List Int) : List Int := if permC (ws.length : Int) al vs = 0 then wsTo ws al vs al.length else ws
def setN (n : Nat) (arcs : List S38) (L ws al vs : List Int) : Int := if permC (ws.length : Int) al vs = 0 then (diffN (sdS n arcs L ws).1 (sdS n arcs L ws).2 (sdS n arcs L (wsTo ws al vs al.length)).1 (sdS n arcs L (wsTo ws al vs al.length)).2 (hierS n arcs L).edges.length : Int) else 0
theorem setW_len (ws al vs : List Int) : (setW ws al vs).length = ws.length := by
 unfold setW
 split
 ·exact wsTo_len ..
 ·rfl
section
variable {w : World} {b t q p n : Nat} {arcs : List S38} {L ws : List Int}
theorem Metric_Set.uni (h : Hk n arcs L) (hn : n ≤ 100) (hM : MetB w b t q p n arcs L ws) (hal : arcs.length ≤ 1000000) (hwl : ws.length = arcs.length) {aA : Option Addr} {ac : Nat} {al : List Int} {vA : Option Addr} {vc : Nat} {vs : List Int}
  (ha : ∀ W', Bel (Bet b t) w W' → Kd.C (Kd.int .i64) W' aA al.length al) (hv : ∀ W', Bel (Bet b t) w W' → Kd.C (Kd.int .i64) W' vA vs.length vs) (hll : al.length ≤ 1000000) :
  Calls Try.prog 43 #[.pointer (some ⟨q, 0, none⟩), .slice aA al.length ac, .slice vA vs.length vc] w fun e w' => Bel (Bet b t) w w' ∧
   e = .returned (.tuple #[.int .i64 (setN n arcs L ws al vs), .int .i64 (permC (ws.length : Int) al vs)]) ∧ MetB w' b t q p n arcs L (setW ws al vs) := by
 refine (Metric_Set.of h hn hM hal hwl ha hv hll).mono ?_
 rintro e w' ⟨hB, ⟨hp, he, hM'⟩ | ⟨hp, he, hM'⟩⟩
 ·refine ⟨hB, ?_, ?_⟩
  ·unfold setN
   rw [if_neg hp]
   exact he
  ·unfold setW
   rw [if_neg hp]
   exact hM'
 ·refine ⟨hB, ?_, ?_⟩
  ·unfold setN
   rw [if_pos hp, hp]
   exact he
  ·unfold setW
   rw [if_pos hp]
   exact hM'
def St (T : Nat → Prop) (w : World) (A : Option Addr) (xs : List Int) : Prop := ∀ W', Bel T w W' → Kd.C (Kd.int .i64) W' A xs.length xs
theorem St.here {T : Nat → Prop} {A : Option Addr} {xs : List Int} (h : St T w A xs) : Kd.C (Kd.int .i64) w A xs.length xs := h w (Bel.refl _ _)
theorem St.bel {T : Nat → Prop} {w1 : World} {A : Option Addr} {xs : List Int} (h : St T w A xs) (hb : Bel T w w1) : St T w1 A xs := fun W' hW => h W' (hb.trans hW (fun _ _ h => h))
theorem St.below {T : Nat → Prop} {w1 : World} {A : Option Addr} {xs : List Int} (h : St T w A xs) (hb : Below w.heap.size w w1) : St T w1 A xs := h.bel ((Bel.refl T w).below hb)
theorem St.more {T T' : Nat → Prop} {A : Option Addr} {xs : List Int} (h : St T w A xs) (hT : ∀ k, k < w.heap.size → T' k → T k) : St T' w A xs := fun W' hW => h W' ((Bel.refl T w).trans hW hT)
theorem St.of {T : Nat → Prop} {w0 : World} {A : Option Addr} {xs : List Int} (h : Kd.C (Kd.int .i64) w0 A xs.length xs) (hb : Below w0.heap.size w0 w) (hT : ∀ k, T k → w0.heap.size ≤ k) : St T w A xs := fun W' hW => Kd.C_below h (bChain hb (hW.out hb.size hT))
theorem ref41_Set.uni {T : Nat → Prop} (hk : Hk n arcs L) (hn : n ≤ 1000) {gA : Option Addr} {gc : Nat} {lA : Option Addr} {lc : Nat} {wA : Option Addr} {wc : Nat} {aA : Option Addr} {ac : Nat} {al : List Int} {vA : Option Addr} {vc : Nat} {vs : List Int}
  (hg : Kd.C k38 w gA arcs.length arcs) (hgc : arcs.length ≤ gc) (hl : Kd.C (Kd.int .i64) w lA L.length L) (hlc : L.length ≤ lc) (hw : St T w wA ws) (hwc : ws.length ≤ wc) (ht : ∀ k, T k → k < w.heap.size) (ha : Kd.C (Kd.int .i64) w aA al.length al) (hv : Kd.C (Kd.int .i64) w vA vs.length vs)
  (hal : arcs.length ≤ 1000000) (hwl : ws.length = arcs.length) (hLl : L.length ≤ 1000000) (hll : al.length ≤ 1000000) :
  Calls Try.prog 44 #[.agg #[.bool false, .int .i64 (n : Int), .slice gA arcs.length gc, .slice lA L.length lc, .slice wA ws.length wc], .slice aA al.length ac, .slice vA vs.length vc] w fun e w' => Below w.heap.size w w' ∧
   ∃ A c, e = .returned (.tuple #[.agg #[.bool false, .int .i64 (n : Int), .slice gA arcs.length gc, .slice lA L.length lc, .slice A (setW ws al vs).length c], .int .i64 (setN n arcs L ws al vs), .int .i64 (permC (ws.length : Int) al vs)]) ∧
    St T w' A (setW ws al vs) ∧ (setW ws al vs).length ≤ c := by
 refine (ref41_Set.calls hk hn hg hgc hl hlc hw.here hwc ha hv hal hwl hLl hll).mono ?_
 rintro e w' ⟨hB, ⟨hp, he⟩ | ⟨hp, A, c, he, hC, hc⟩⟩
 ·refine ⟨hB, wA, wc, ?_, ?_, ?_⟩
  ·unfold setN
   rw [if_neg hp, setW_len]
   exact he
  ·unfold setW
   rw [if_neg hp]
   exact hw.below hB
  ·rw [setW_len]
   exact hwc
 ·refine ⟨hB, A, c, ?_, ?_, ?_⟩
  ·unfold setN
   rw [if_pos hp, hp, setW_len]
   exact he
  ·unfold St
   rw [setW_len]
   unfold setW
   rw [if_pos hp]
   exact fun W' hW => hC W' (fun k h1 h2 => hW.block k h2 (fun hk => by have := ht k hk; omega))
  ·rw [setW_len]
   exact hc
end
section
variable {P : Program} {ops : Array Oper} {Q : Exit → Act → World → Prop} {md : Region.Mode} {S : World → Prop} {ds : List Nat} {n m fuel : Nat} {a : Act} {w : World}
theorem at_ {M : Nat} {a' : Act} (h : wpAnyLast P md ops Q S ds fuel (bits n M) a' w) (hm : m = M := by decide) (ha : a = a' := by simp only [putW]) : wpAnyLast P md ops Q S ds fuel (bits n m) a w := by
 rw [hm, ha]
 exact h
end
end Go.Proofs.Ytcfeehaoeaoegaa.Print
