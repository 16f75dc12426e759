import Derived.Test.YtfnophaiamkmpaaM23
namespace Go.Proofs.Ytfnophaiamkmpaa.Print
open Go.RowKit Go.Proofs.YtfnophaiamkmpaaW.PrintWords Go.Proofs.YtfnophaiamkmpaaW.PrintLast Go.Proofs.YtfnophaiamkmpaaW.PrintMore
set_option linter.unusedVariables false
set_option linter.unusedSimpArgs false
set_option maxHeartbeats 12800000 in
set_option maxRecDepth 100000 in
theorem query_climb.calls {w : World} {q p n : Nat} {arcs : List S58} {L ws : List Int} (hk : Hk n arcs L) (hn : n ≤ 20) (hM : MetH w q p n arcs L ws) (hwl : ws.length = arcs.length) (hwr : ∀ i, i < ws.length → ws.getD i 0 ≤ 1073741824) (b : Bool) {x : Nat} (hx : x < n) :
  Calls Try.prog 50 #[.pointer (some ⟨q, 0, none⟩), .int .i64 (L.getD x 0), .bool b] w fun e w' => ∃ (K : Nat) (lv : Value) (mc mv : Nat), e = .returned (.agg #[lv, .map (some mc), .map (some mv)]) ∧ Below w.heap.size w w' ∧ curP n (hierS n arcs L) (L.getD x 0) K < 0 ∧ (∀ j, j < K → 0 ≤ curP n (hierS n arcs L) (L.getD x 0) j) ∧
   Kd.R k50 50 w' w.heap.size (fun _ => True) lv ((climbS n (hierS n arcs L) (wtL n arcs L ws b) (L.getD x 0) K).l.map toR) ∧ MapIs (Value.int .i64) (Value.int .i64) w' mc (climbS n (hierS n arcs L) (wtL n arcs L ws b) (L.getD x 0) K).cost ∧ MapIs (Value.int .i64) (Value.int .i64) w' mv (climbS n (hierS n arcs L) (wtL n arcs L ws b) (L.getD x 0) K).via := by
 have HK := Aside0.mk hk
 have HM := Aside0.mk hM
 have HWB : Aside0 (∀ (u c : Int), UpP n arcs L ws b (L.getD x 0) u c → 0 ≤ c ∧ c ≤ 22517998136852480) := ⟨fun u c hp => hk.path_bound hwl hwr hn hx hp⟩
 have HWS : Aside0 (∀ e, e < eL n arcs L → wtS n arcs L ws b e < mInf → wtS n arcs L ws b e ≤ 1125899906842624) := ⟨fun e he hw => hk.wt_small hwl hwr hn he hw⟩
 have HCI : Aside0 (∀ k, (∀ j, j < k → 0 ≤ curP n (hierS n arcs L) (L.getD x 0) j) → CInv n arcs L ws b x k (climbS n (hierS n arcs L) (wtL n arcs L ws b) (L.getD x 0) k)) := ⟨fun k hk2 => hk.cinv hx k hk2⟩
 have HCU : Aside0 (∀ k, 0 ≤ curP n (hierS n arcs L) (L.getD x 0) k → ∃ y : Nat, y < n ∧ x + k ≤ y ∧ curP n (hierS n arcs L) (L.getD x 0) k = L.getD y 0) := ⟨fun k h0 => hk.cur hx k h0⟩
 have HME2 : Aside0 (∀ k, (∀ j, j < k + 1 → 0 ≤ curP n (hierS n arcs L) (L.getD x 0) j) → climbM n L (curP n (hierS n arcs L) (L.getD x 0) (k + 1)) < climbM n L (curP n (hierS n arcs L) (L.getD x 0) k)) := ⟨fun k hk2 => hk.climbM_lt hx k (hk2 k (by omega))⟩
 have HCS : Aside0 (∀ y k, y < n → curP n (hierS n arcs L) (L.getD x 0) k = L.getD y 0 → 0 ≤ curP n (hierS n arcs L) (L.getD x 0) (k + 1) → ∃ z : Nat, y < z ∧ z < n ∧ curP n (hierS n arcs L) (L.getD x 0) (k + 1) = L.getD z 0) := ⟨fun y k hy hk2 h0 => hk.cur_step hx hy hk2 h0⟩
 have hsh := hk.short (by omega)
 have hmk := @run_makeMap Try.prog
 obtain ⟨s, HSX⟩ : ∃ s, Aside0 (L.getD x 0 = s) := ⟨_, ⟨rfl⟩⟩
 obtain ⟨m, HME⟩ : ∃ m, Aside0 ((hierS n arcs L).edges.length = m) := ⟨_, ⟨rfl⟩⟩
 rw [HME.out] at hsh
 rw [HSX.out] at HCI HCU HCS HME2 ⊢
 obtain ⟨wl, HWL⟩ : ∃ wl, Aside0 (wtL n arcs L ws b = wl) := ⟨_, ⟨rfl⟩⟩
 rw [HWL.out] at HCI ⊢
 clear hk hM hwl hwr
 go_enter Try.func50, Try.ntmps50
 cases b
 ·go_wp2_with (fail)
  have HK6 := Aside0.mk (heap_alloc_new w (Obj.cells #[.slice none 0 0, .map none, .map none] 96))
  have HB : Aside0 (Below w.heap.size w (w.alloc (Obj.cells #[.slice none 0 0, .map none, .map none] 96))) := ⟨(Below.refl _ _).alloc (Nat.le_refl _) _⟩
  generalize w.alloc (Obj.cells #[.slice none 0 0, .map none, .map none] 96) = w1 at HK6 HB ⊢
  go_step3
  go_wp2_with (fail)
  refine (Metric_Hier.calls ((HM.out.below HB.out).reads HK.out (by omega))).mono ?_
  rintro e w1' ⟨rfl, rfl⟩
  go_wp2_with (fail)
  refine (Hier_Edges.calls (HM.out.below HB.out).hier (by rw [HME.out]; omega)).mono ?_
  rintro e w2 ⟨ev, rfl, hr2, hb2⟩
  obtain ⟨eA, ec, rfl⟩ := Kd.R_slice hr2
  have HE := Aside0.mk hr2
  have HB2 := Aside0.mk (below_then HB.out HB.out.size hb2)
  have HK62 := Aside0.mk (blk_below HK6.out hb2)
  clear hr2 hb2
  go_wp2_with (first
   | (refine wp_insert_map (encE := Value.int .i64) qKey Try.underlying94 rfl _ _ _ rfl rfl (MapIs.made w2) s 0 rfl rfl rfl ?_
      intro w3 hm3 hg3
      have HM3 := Aside0.mk hm3
      have HG3 := Aside0.mk hg3
      clear hm3 hg3)
   | (refine wp_insert_map (encE := Value.int .i64) qKey Try.underlying94 rfl _ _ _ rfl rfl (MapIs.made w3) s (-1) rfl rfl rfl ?_
      intro w4 hm4 hg4
      have HM4 := Aside0.mk hm4
      have HG4 := Aside0.mk hg4
      clear hm4 hg4))
  -- THE LOOPS
  go_step3
  go_wp2_with (fail)
  have hs3 : w2.heap.size < w3.heap.size := HM3.out.lt
  have hs4 : w3.heap.size < w4.heap.size := HM4.out.lt
  have hX5 := heap_alloc_new w4 (Obj.cells #[.slice none 0 0, .map (some w2.heap.size), .map (some w3.heap.size)] 96)
  have hs5 : (w4.alloc (Obj.cells #[.slice none 0 0, .map (some w2.heap.size), .map (some w3.heap.size)] 96)).heap.size = w4.heap.size + 1 := World.size_alloc ..
  have hb45 : Below w4.heap.size w4 (w4.alloc (Obj.cells #[.slice none 0 0, .map (some w2.heap.size), .map (some w3.heap.size)] 96)) := (Below.refl _ _).alloc (Nat.le_refl _) _
  have hsa2 : (w2.alloc (Obj.map #[] 0)).heap.size = w2.heap.size + 1 := World.size_alloc ..
  have hsa3 : (w3.alloc (Obj.map #[] 0)).heap.size = w3.heap.size + 1 := World.size_alloc ..
  have hb23 : Below w2.heap.size w2 w3 := ((Below.refl _ _).alloc (Nat.le_refl _) _).grown HG3.out (by omega) (fun k hk => Nat.le_of_eq (Option.some.inj hk))
  have hb34 : Below w2.heap.size w3 w4 := ((Below.refl _ _).alloc (by omega) _).grown HG4.out (by omega) (fun k hk => by have := Option.some.inj hk; omega)
  have hm35 : MapIs (Value.int .i64) (Value.int .i64) w4 w2.heap.size (mput [] s 0) := (HM3.out.alloc _).grown HG4.out (fun e => by have := Option.some.inj e; omega)
  have HCW0 : Aside0 (CW (w4.alloc (Obj.cells #[.slice none 0 0, .map (some w2.heap.size), .map (some w3.heap.size)] 96)) (w4.alloc (Obj.cells #[.slice none 0 0, .map (some w2.heap.size), .map (some w3.heap.size)] 96)) w4.heap.size w2.heap.size w3.heap.size (w4.alloc (Obj.cells #[.slice none 0 0, .map (some w2.heap.size), .map (some w3.heap.size)] 96)).heap.size (.slice none 0 0) [] [(s, 0)] [(s, -1)]) := ⟨⟨Bel.refl _ _, hX5, hm35.below hb45, HM4.out.below hb45, Kd.R_nil _ _ _ _ _, ⟨hs3, hs4, by omega⟩, Nat.le_refl _⟩⟩
  have hb25 : Below w2.heap.size w2 (w4.alloc (Obj.cells #[.slice none 0 0, .map (some w2.heap.size), .map (some w3.heap.size)] 96)) := bCh (bCh hb23 hb34) (bLo hb45 (by omega))
  have HB5 : Aside0 (Below w.heap.size w (w4.alloc (Obj.cells #[.slice none 0 0, .map (some w2.heap.size), .map (some w3.heap.size)] 96))) := ⟨bCh HB2.out (bLo hb25 HB2.out.size)⟩
  have HK65 := Aside0.mk ((hb25.block w.heap.size (hblk_lt HK62.out)).trans HK62.out)
  have HES : Aside0 (∀ W', Bel (fun k => k = w2.heap.size ∨ k = w3.heap.size ∨ k = w4.heap.size) (w4.alloc (Obj.cells #[.slice none 0 0, .map (some w2.heap.size), .map (some w3.heap.size)] 96)) W' → Kd.C k58 W' eA (hierS n arcs L).edges.length (hierS n arcs L).edges) := ⟨fun W' hW => (Kd.R_reads' (Kd.R_move (Kd.R_bound HE.out) (w1 := W') (fun k hk => (hW.block k (by have := hk.2.2.1; omega) (fun hT => by have := hk.2.2.1; omega)).trans (hb25.block k hk.2.2.1)))).2.2⟩
  have hsb : w.heap.size ≤ w2.heap.size := HB2.out.size
  have h6lt : w.heap.size < w2.heap.size := hblk_lt HK62.out
  clear hX5 hb45 hsa2 hsa3 hb23 hb34 hm35 hb25 HM3 HG3 HM4 HG4 HE HB2 HK62 HK6 HB
  generalize w4.alloc (Obj.cells #[.slice none 0 0, .map (some w2.heap.size), .map (some w3.heap.size)] 96) = w5 at hs5 HCW0 HB5 HK65 HES ⊢
  go_loopw [11] (fun v wr => ∃ (k : Nat) (lv : Value), v = .int .i64 (curP n (hierS n arcs L) s k) ∧ Aside0 (∀ j, j < k → 0 ≤ curP n (hierS n arcs L) s j) ∧ Aside0 (CW w5 wr w4.heap.size w2.heap.size w3.heap.size w5.heap.size lv ((climbS n (hierS n arcs L) wl s k).l.map toR) (climbS n (hierS n arcs L) wl s k).cost (climbS n (hierS n arcs L) wl s k).via)) (fun v _ => climbM n L (intOf v))
  case atStart => exact ⟨0, .slice none 0 0, rfl, ⟨fun j hj => by omega⟩, HCW0⟩
  case round =>
   clear HCW0
   obtain ⟨k, lv, rfl, HJ, HCW⟩ := hrel
   have HIV := Aside0.mk (HCI.out k HJ.out)
   obtain ⟨v, HV⟩ : ∃ v, Aside0 (curP n (hierS n arcs L) s k = v) := ⟨_, ⟨rfl⟩⟩
   have HNX : Aside0 (curP n (hierS n arcs L) s (k + 1) = parentS n (hierS n arcs L) v) := ⟨by rw [← HV.out]; rfl⟩
   have hx0 := (blk_cell HCW.out.blk 0).trans rfl
   have hx1 := (blk_cell HCW.out.blk 1).trans rfl
   have hx2 := (blk_cell HCW.out.blk 2).trans rfl
   rw [HV.out]
   by_cases hv0 : 0 ≤ v
   ·cases hg : mget (climbS n (hierS n arcs L) wl s k).cost v with
    | none =>
     have HG0 := Aside0.mk hg
     have hgs : mget (climbS n (hierS n arcs L) wl s k).cost (curP n (hierS n arcs L) s k) = none := by rw [HV.out]; exact hg
     have HST := Aside0.mk (climbS_none hgs)
     clear hg hgs
     have hBr : Below w.heap.size w wr := bCh HB5.out (HCW.out.bel.out (HB5.out.size) (fun k hk => by rcases hk with rfl | rfl | rfl <;> omega))
     have HHr := Aside0.mk (HM.out.below hBr).hier
     clear hBr
     go_wp2_with (refine wp_lookup_map qKey Try.underlying94 0 zeroI_ rfl _ _ true rfl HCW.out.cost v rfl rfl (.tuple #[.int .i64 0, .bool false]) (by rw [HG0.out]; rfl) ?_)
     refine (Hier_Parent.calls HHr.out HK.out.ok v).mono ?_
     rintro e w11 ⟨rfl, hb11⟩
     have HC11 := Aside0.mk (HCW.out.below hb11)
     clear hb11 hx0 hx1 hx2
     have HJ2 : Aside0 (∀ j', j' < k + 1 → 0 ≤ curP n (hierS n arcs L) s j') := ⟨fun j' hj' => by
      by_cases e : j' = k
      ·rw [e, HV.out]; exact hv0
      ·exact HJ.out j' (by omega)⟩
     have HMS := Aside0.mk (HME2.out k HJ2.out)
     go_wp2_with (fail)
     go_roundw
     case rel => exact ⟨k + 1, lv, by rw [HNX.out], HJ2, by rw [HST.out]; exact HC11⟩
     case measure =>
      have h1 := HMS.out
      rw [HNX.out, HV.out] at h1
      exact h1
    | some c =>
     have HG0 := Aside0.mk hg
     have hcb := HWB.out _ _ (HIV.out.att v c hg)
     have hcb0 := hcb.1
     have hcb1 := hcb.2
     have hrl : ((climbS n (hierS n arcs L) wl s k).l.map toR).length ≤ 1000 := by
      rw [List.length_map, HIV.out.lst]
      refine Nat.le_trans (List.length_filterMap_le _ _) ?_
      rw [List.length_range]
      by_cases hk0 : k = 0
      ·omega
      ·obtain ⟨y, h2, h3, _⟩ := HCU.out (k - 1) (HJ.out (k - 1) (by omega))
       omega
     clear hg hcb
     obtain ⟨A, cc, rfl⟩ := Kd.R_slice HCW.out.lst
     obtain ⟨rl, HRL⟩ : ∃ rl, Aside0 ((climbS n (hierS n arcs L) wl s k).l.map toR = rl) := ⟨_, ⟨rfl⟩⟩
     rw [HRL.out] at HCW hx0 hrl
     have hszr : w5.heap.size ≤ wr.heap.size := HCW.out.bel.size
     go_upto_region 12 with (refine wp_lookup_map qKey Try.underlying94 0 zeroI_ rfl _ _ true rfl HCW.out.cost v rfl rfl (.tuple #[.int .i64 c, .bool true]) (by rw [HG0.out]; rfl) ?_)
     go_wp2_with (
      refine Kd.R_append k50 (w0 := wr) w5.heap.size (by rfl) (.tmp 52) (.tmp 56) 43 50 (.agg #[(.int .i64 0), (.int .i64 0)]) 16 rfl Try.underlying43 info50 rfl (by decide) (by decide) (.slice A rl.length cc) rl ⟨v, c⟩ [.int .i64 v, .int .i64 c] (fun _ => True) (fun _ => False) rfl rfl ?aP (fun _ hk => hk.elim) ?aF ?aO ?aB ?aS ?aL ?_
      (case aP => exact k50_mkM _ _ _ _)
      (case aF => exact (fun _ _ => trivial))
      (case aO => exact Kd.R_mono HCW.out.lst (fun _ _ => trivial))
      (case aB => exact Below.refl _ _)
      (case aS => exact hszr)
      (case aL => omega)
      intro v1 w6 ho1 hb1 hg1 hat1
      obtain ⟨A1, c1, rfl⟩ := Kd.R_slice ho1
      have HR1 := Aside0.mk ho1
      have HB1 := Aside0.mk hb1
      have HG1 := Aside0.mk hg1
      have hf4 : w6.frozen? ⟨w4.heap.size, 0, none⟩ = false := blk_frozen ((hb1.block w4.heap.size (by omega)).trans HCW.out.blk) 0
      have hx0b : w6.cell? ⟨w4.heap.size, 0, none⟩ = some (.slice A rl.length cc) := cell_keep (hb1.block w4.heap.size (by omega)) hx0
      clear ho1 hb1 hg1 hat1 hx0)
     have HC7 := Aside0.mk (HCW.out.push HR1.out HB1.out (HCW.out.bel.grown HG1.out (fun k hk => .inr (Kd.R_base HCW.out.lst k hk))))
     rw [show (rl ++ [(⟨v, c⟩ : S50)]).length = rl.length + 1 by simp] at HC7
     generalize w6.setCell ⟨w4.heap.size, 0, none⟩ (.slice A1 (rl.length + 1) c1) = w7 at HC7 ⊢
     generalize Value.slice A1 (rl.length + 1) c1 = v1 at HC7
     have hBr : Below w.heap.size w w7 := bCh HB5.out (HC7.out.bel.out (HB5.out.size) (fun k hk => by rcases hk with rfl | rfl | rfl <;> omega))
     have HHr := Aside0.mk (HM.out.below hBr).hier
     clear hBr hf4 hx0b HCW HR1 HB1 HG1 hx1 hx2
     refine (Hier_Up.calls HHr.out HK.out.ok v (Nat.le_trans (HK.out.capu7 (by omega) v.toNat) (show 1000000 ≤ 1000000000 by decide))).mono ?_
     rintro e w8 ⟨uv, rfl, hr8, hb8⟩
     have HC8 := Aside0.mk (HC7.out.below hb8)
     have hs7 : w5.heap.size ≤ w7.heap.size := HC7.out.bel.size
     obtain ⟨un, HUN⟩ : ∃ un, Aside0 ((upS n (hierS n arcs L) v).length = un) := ⟨_, ⟨rfl⟩⟩
     have hul : un ≤ 1000000 := by
      rw [← HUN.out]
      unfold upS
      split
      ·exact HK.out.capu7 (by omega) v.toNat
      ·simp
     obtain ⟨uA, uc, rfl⟩ := Kd.R_slice hr8
     have HUS : Aside0 (∀ W', Bel (fun k => k = w2.heap.size ∨ k = w3.heap.size ∨ k = w4.heap.size) w8 W' → Kd.C (Kd.int .i64) W' uA (upS n (hierS n arcs L) v).length (upS n (hierS n arcs L) v)) := ⟨fun W' hW => (Kd.R_reads' (Kd.R_move (Kd.R_bound hr8) (w1 := W') (fun k hk => hW.block k hk.2.2.1 (fun hT => by have := hk.2.1; omega)))).2.2⟩
     rw [HUN.out]
     clear hr8 hb8 HC7 HHr
     have HBU0 : Aside0 (Bel (fun k => k = w2.heap.size ∨ k = w3.heap.size ∨ k = w4.heap.size) w8 w8) := ⟨Bel.refl _ _⟩
     go_wp2_with (fail)
     go_loopw [63] (fun i wq => ∃ (j : Nat) (C' V' : CM), i = .int .i64 (j : Int) ∧ j ≤ un ∧ Aside0 (((upS n (hierS n arcs L) v).take j).foldl (relaxG (toS (hierS n arcs L).edges) (sideS wl) c) ((climbS n (hierS n arcs L) wl s k).cost, (climbS n (hierS n arcs L) wl s k).via) = (C', V')) ∧ Aside0 (Bel (fun k => k = w2.heap.size ∨ k = w3.heap.size ∨ k = w4.heap.size) w8 wq) ∧ Aside0 (CW w5 wq w4.heap.size w2.heap.size w3.heap.size w5.heap.size v1 (rl ++ [⟨v, c⟩]) C' V')) (fun i _ => un - (intOf i).toNat)
     case atStart => exact ⟨0, _, _, rfl, Nat.zero_le _, ⟨rfl⟩, HBU0, HC8⟩
     case round =>
      clear HBU0 HC8
      obtain ⟨j, C', V', rfl, hj, HFO, HBU, HC9⟩ := hrel
      by_cases hjl : j < un
      ·rcases cells_of_C (HUS.out _ HBU.out) with ⟨hz, _⟩ | ⟨_, ub, uo, hA1, hce⟩
       ·have := HUN.out
        omega
       subst hA1
       have hca := hce j (by rw [HUN.out]; exact hjl)
       clear hce
       have HFS : Aside0 (((upS n (hierS n arcs L) v).take (j + 1)).foldl (relaxG (toS (hierS n arcs L).edges) (sideS wl) c) ((climbS n (hierS n arcs L) wl s k).cost, (climbS n (hierS n arcs L) wl s k).via) = (relaxG (toS (hierS n arcs L).edges) (sideS wl) c) (C', V') ((upS n (hierS n arcs L) v).getD j 0)) := ⟨by
        rw [foldl_take_succ _ _ (by rw [HUN.out]; exact hjl), HFO.out]⟩
       obtain ⟨i, hi, hil, hi0⟩ := HK.out.of_up (mem_getD (l := upS n (hierS n arcs L) v) (i := j) (by rw [HUN.out]; exact hjl))
       rw [hi] at hca HFS
       have HWI0 := Aside0.mk (side_wt (n := n) (arcs := arcs) (L := L) (ws := ws) (b := false) hil)
       rw [HWL.out] at HWI0
       have hws := HWS.out i hil
       rw [← HWI0.out] at hws
       obtain ⟨W, HWI⟩ : ∃ W, Aside0 (sideS wl (i : Int) = W) := ⟨_, ⟨rfl⟩⟩
       obtain ⟨u, HTU⟩ : ∃ u, Aside0 (toS (hierS n arcs L).edges (i : Int) = u) := ⟨_, ⟨rfl⟩⟩
       rw [HWI.out] at hws
       have hwp : 0 ≤ W := by
        rw [← HWI.out, HWI0.out]
        exact (wtS_bound (n := n) (arcs := arcs) (L := L) (ws := ws) (b := false) i).1
       clear HWI0 hi hi0
       have hBr : Below w.heap.size w wr := bCh HB5.out (HC9.out.bel.out (HB5.out.size) (fun k hk => by rcases hk with rfl | rfl | rfl <;> omega))
       have HMR := Aside0.mk ((HM.out.below hBr).reads HK.out (by omega))
       have hEC := HES.out _ HC9.out.bel
       obtain ⟨ae, hA2, hx0, hxT⟩ := at_T58 hEC (i : Int) (by omega) (by have : i < (hierS n arcs L).edges.length := hil; omega)
       subst hA2
       have HTE : Aside0 ((rd_T58 (hierS n arcs L).edges (i : Int)).f1 = u) := HTU
       rw [HTE.out] at hxT
       simp only [Int.toNat_natCast] at hx0 hxT
       clear hx0 hBr hEC
       go_wp2_with (fail)
       refine (Metric_Up.calls HMR.out (i : Int)).mono ?_
       rintro e w10 ⟨rfl, rfl⟩
       rw [show (sdS n arcs L ws).1 = wl from HWL.out, HWI.out]
       unfold mInf at hws
       have hx1b := (blk_cell HC9.out.blk 1).trans rfl
       by_cases hW : W ≥ 1152921504606846976
       ·have HWY : Aside0 (W ≥ mInf) := ⟨by unfold mInf; exact hW⟩
        clear hws
        have HFN : Aside0 (((upS n (hierS n arcs L) v).take (j + 1)).foldl (relaxG (toS (hierS n arcs L).edges) (sideS wl) c) ((climbS n (hierS n arcs L) wl s k).cost, (climbS n (hierS n arcs L) wl s k).via) = (C', V')) := ⟨by rw [HFS.out]; unfold relaxG; rw [HWI.out, if_pos HWY.out]⟩
        go_wp2_with (fail)
        go_roundw
        case rel => exact ⟨j + 1, _, _, by go_num, by omega, HFN, HBU, HC9⟩
        case measure => simp [intOf]; omega
       ·have hws2 := hws (by omega)
        have HWN : Aside0 (W < mInf) := ⟨by unfold mInf; omega⟩
        clear hws
        have hil2 : i < m := by have : i < (hierS n arcs L).edges.length := hil; have := HME.out; omega
        cases hgu : mget C' u with
        | none =>
         have hlk : Aside0 (mget C' u = none) := ⟨hgu⟩
         clear hgu
         go_upto_region 21 with (refine wp_lookup_map qKey Try.underlying94 0 zeroI_ rfl _ _ true rfl HC9.out.cost u rfl rfl (.tuple #[.int .i64 0, .bool false]) (by rw [hlk.out]; rfl) ?_)
         have hx1 := (blk_cell HC9.out.blk 1).trans rfl
         have hx2 := (blk_cell HC9.out.blk 2).trans rfl
         refine s_ (fun w' => w'.cell? ⟨w4.heap.size, 1, none⟩ = some (.map (some w2.heap.size)) ∧ w'.cell? ⟨w4.heap.size, 2, none⟩ = some (.map (some w3.heap.size))) [11] ⟨hx1, hx2⟩ (fun hHeld => ?_)
         have hbd : Below w10.heap.size w10 w10.drew := below_drew (Below.refl _ _)
         have HCD := Aside0.mk (HC9.out.below hbd)
         have HBD := Aside0.mk (HBU.out.below hbd)
         generalize w10.drew = wd at HCD HBD hHeld ⊢
         clear hbd hx1 hx2
         refine p_ 0 93 ?_
         refine t2_ 1 94 hHeld ?_
         refine p_ 2 95 ?_
         refine p_ 3 96 ?_
         refine t2_ 4 97 hHeld ?_
         refine p_ 5 98 ?_
         refine p_ 6 99 ?_
         refine p_ 7 100 ?_
         have hwr : wrap64 (c + W) = c + W := by unfold wrap64; omega
         refine p_ 8 101 ?_
         rw [hwr]
         refine p_ 9 102 ?_
         refine oN_ 10 (fun K hK => ?_)
         refine step_mapUpdate (encE := Value.int .i64) qKey Try.underlying94 rfl rfl _ _ _ rfl HCD.out.cost u (c + W) rfl rfl rfl (fun w9 HM9 HG9 => ?_)
         have HCE := Aside0.mk (HCD.out.putC HM9.out HG9.out)
         refine hK.out _ _ ⟨(blk_cell HCE.out.blk 1).trans rfl, (blk_cell HCE.out.blk 2).trans rfl⟩ (fun hHeld => ?_)
         clear hK K
         have HBE := Aside0.mk (HBD.out.grown HG9.out (fun k hk => .inl (.inl (Option.some.inj hk).symm)))
         clear HCD HBD HM9 HG9
         refine l_ 11 (fun K hK => ?_)
         refine step_mapUpdate (encE := Value.int .i64) qKey Try.underlying94 rfl rfl _ _ _ rfl HCE.out.via u (i : Int) rfl rfl rfl (fun w9b HM9 HG9 => ?_)
         refine hK.out _ _ ?_
         clear hK K
         have HCF := Aside0.mk (HCE.out.putV HM9.out HG9.out)
         have HBF := Aside0.mk (HBE.out.grown HG9.out (fun k hk => .inl (.inr (.inl (Option.some.inj hk).symm))))
         clear HCE HBE HM9 HG9
         refine d_ ?_
         clear hHeld
         have HFN : Aside0 (((upS n (hierS n arcs L) v).take (j + 1)).foldl (relaxG (toS (hierS n arcs L).edges) (sideS wl) c) ((climbS n (hierS n arcs L) wl s k).cost, (climbS n (hierS n arcs L) wl s k).via) = (mput C' u (c + W), mput V' u (i : Int))) := ⟨by rw [HFS.out]; unfold relaxG; rw [HTU.out, HWI.out]; rw [if_neg (Int.not_le.2 HWN.out), hlk.out]⟩
         go_wp2_with (fail)
         go_roundw
         case rel => exact ⟨j + 1, _, _, by go_num, by omega, HFN, HBF, HCF⟩
         case measure => simp [intOf]; omega
        | some old =>
         have hlk : Aside0 (mget C' u = some old) := ⟨hgu⟩
         clear hgu
         by_cases hlt : c + W < old
         ·go_upto_region 21 with (refine wp_lookup_map qKey Try.underlying94 0 zeroI_ rfl _ _ true rfl HC9.out.cost u rfl rfl (.tuple #[.int .i64 old, .bool true]) (by rw [hlk.out]; rfl) ?_)
          have hx1 := (blk_cell HC9.out.blk 1).trans rfl
          have hx2 := (blk_cell HC9.out.blk 2).trans rfl
          refine s_ (fun w' => w'.cell? ⟨w4.heap.size, 1, none⟩ = some (.map (some w2.heap.size)) ∧ w'.cell? ⟨w4.heap.size, 2, none⟩ = some (.map (some w3.heap.size))) [11] ⟨hx1, hx2⟩ (fun hHeld => ?_)
          have hbd : Below w10.heap.size w10 w10.drew := below_drew (Below.refl _ _)
          have HCD := Aside0.mk (HC9.out.below hbd)
          have HBD := Aside0.mk (HBU.out.below hbd)
          generalize w10.drew = wd at HCD HBD hHeld ⊢
          clear hbd hx1 hx2
          refine p_ 0 93 ?_
          refine t2_ 1 94 hHeld ?_
          refine p_ 2 95 ?_
          refine p_ 3 96 ?_
          refine t2_ 4 97 hHeld ?_
          refine p_ 5 98 ?_
          refine p_ 6 99 ?_
          refine p_ 7 100 ?_
          have hwr : wrap64 (c + W) = c + W := by unfold wrap64; omega
          refine p_ 8 101 ?_
          rw [hwr]
          refine p_ 9 102 ?_
          refine oN_ 10 (fun K hK => ?_)
          refine step_mapUpdate (encE := Value.int .i64) qKey Try.underlying94 rfl rfl _ _ _ rfl HCD.out.cost u (c + W) rfl rfl rfl (fun w9 HM9 HG9 => ?_)
          have HCE := Aside0.mk (HCD.out.putC HM9.out HG9.out)
          refine hK.out _ _ ⟨(blk_cell HCE.out.blk 1).trans rfl, (blk_cell HCE.out.blk 2).trans rfl⟩ (fun hHeld => ?_)
          clear hK K
          have HBE := Aside0.mk (HBD.out.grown HG9.out (fun k hk => .inl (.inl (Option.some.inj hk).symm)))
          clear HCD HBD HM9 HG9
          refine l_ 11 (fun K hK => ?_)
          refine step_mapUpdate (encE := Value.int .i64) qKey Try.underlying94 rfl rfl _ _ _ rfl HCE.out.via u (i : Int) rfl rfl rfl (fun w9b HM9 HG9 => ?_)
          refine hK.out _ _ ?_
          clear hK K
          have HCF := Aside0.mk (HCE.out.putV HM9.out HG9.out)
          have HBF := Aside0.mk (HBE.out.grown HG9.out (fun k hk => .inl (.inr (.inl (Option.some.inj hk).symm))))
          clear HCE HBE HM9 HG9
          refine d_ ?_
          clear hHeld
          have HFN : Aside0 (((upS n (hierS n arcs L) v).take (j + 1)).foldl (relaxG (toS (hierS n arcs L).edges) (sideS wl) c) ((climbS n (hierS n arcs L) wl s k).cost, (climbS n (hierS n arcs L) wl s k).via) = (mput C' u (c + W), mput V' u (i : Int))) := ⟨by rw [HFS.out]; unfold relaxG; rw [HTU.out, HWI.out]; rw [if_neg (Int.not_le.2 HWN.out), hlk.out]; dsimp only; rw [if_pos hlt]⟩
          go_wp2_with (fail)
          go_roundw
          case rel => exact ⟨j + 1, _, _, by go_num, by omega, HFN, HBF, HCF⟩
          case measure => simp [intOf]; omega
         ·have HFN : Aside0 (((upS n (hierS n arcs L) v).take (j + 1)).foldl (relaxG (toS (hierS n arcs L).edges) (sideS wl) c) ((climbS n (hierS n arcs L) wl s k).cost, (climbS n (hierS n arcs L) wl s k).via) = (C', V')) := ⟨by rw [HFS.out]; unfold relaxG; rw [HTU.out, HWI.out]; rw [if_neg (Int.not_le.2 HWN.out), hlk.out]; dsimp only; rw [if_neg hlt]⟩
          go_wp2_with (refine wp_lookup_map qKey Try.underlying94 0 zeroI_ rfl _ _ true rfl HC9.out.cost u rfl rfl (.tuple #[.int .i64 old, .bool true]) (by rw [hlk.out]; rfl) ?_)
          go_roundw
          case rel => exact ⟨j + 1, _, _, by go_num, by omega, HFN, HBU, HC9⟩
          case measure => simp [intOf]; omega
      ·obtain rfl : j = un := by omega
       have hfull : (upS n (hierS n arcs L) v).take j = upS n (hierS n arcs L) v := List.take_of_length_le (by rw [HUN.out]; exact Nat.le_refl _)
       rw [hfull] at HFO
       have hgs : mget (climbS n (hierS n arcs L) wl s k).cost (curP n (hierS n arcs L) s k) = some c := by rw [HV.out]; exact HG0.out
       have hst := climbS_some hgs
       rw [HV.out, HFO.out] at hst
       have HST := Aside0.mk hst
       clear hst hgs hfull
       have hBr : Below w.heap.size w wr := bCh HB5.out (HC9.out.bel.out (HB5.out.size) (fun k hk => by rcases hk with rfl | rfl | rfl <;> omega))
       have HHr := Aside0.mk (HM.out.below hBr).hier
       clear hBr
       go_wp2_with (fail)
       refine (Hier_Parent.calls HHr.out HK.out.ok v).mono ?_
       rintro e w11 ⟨rfl, hb11⟩
       have HC11 := Aside0.mk (HC9.out.below hb11)
       clear hb11
       have HJ2 : Aside0 (∀ j', j' < k + 1 → 0 ≤ curP n (hierS n arcs L) s j') := ⟨fun j' hj' => by
        by_cases e : j' = k
        ·rw [e, HV.out]; exact hv0
        ·exact HJ.out j' (by omega)⟩
       have HCN : Aside0 (CW w5 w11 w4.heap.size w2.heap.size w3.heap.size w5.heap.size v1 ((climbS n (hierS n arcs L) wl s (k + 1)).l.map toR) (climbS n (hierS n arcs L) wl s (k + 1)).cost (climbS n (hierS n arcs L) wl s (k + 1)).via) := ⟨by
        rw [HST.out]
        dsimp only
        rw [List.map_append, HRL.out]
        exact HC11.out⟩
       have HMS := Aside0.mk (HME2.out k HJ2.out)
       go_wp2_with (fail)
       go_roundw
       case rel => exact ⟨k + 1, v1, by rw [HNX.out], HJ2, HCN⟩
       case measure =>
        have h1 := HMS.out
        rw [HNX.out, HV.out] at h1
        exact h1
   ·obtain ⟨rl, HRL⟩ : ∃ rl, Aside0 ((climbS n (hierS n arcs L) wl s k).l.map toR = rl) := ⟨_, ⟨rfl⟩⟩
    rw [HRL.out] at HCW
    obtain ⟨A, cc, rfl⟩ := Kd.R_slice HCW.out.lst
    have HK6r := Aside0.mk ((HCW.out.bel.block w.heap.size (hblk_lt HK65.out) (by omega)).trans HK65.out)
    have e0 := (blk_cell HK6r.out 0).trans rfl
    have e1 := (blk_cell HK6r.out 1).trans rfl
    have e2 := (blk_cell HK6r.out 2).trans rfl
    have g0 : wr.frozen? ⟨w.heap.size, 0, none⟩ = false := blk_frozen HK6r.out 0
    have g1 : wr.frozen? ⟨w.heap.size, 1, none⟩ = false := blk_frozen HK6r.out 1
    have g2 : wr.frozen? ⟨w.heap.size, 2, none⟩ = false := blk_frozen HK6r.out 2
    go_wp2_with (fail)
    have HB6 : Aside0 ((((wr.setCell ⟨w.heap.size, 0, none⟩ (.slice A rl.length cc)).setCell ⟨w.heap.size, 1, none⟩ (.map (some w2.heap.size))).setCell ⟨w.heap.size, 2, none⟩ (.map (some w3.heap.size))).heap[w.heap.size]? = some (.cells #[.slice A rl.length cc, .map (some w2.heap.size), .map (some w3.heap.size)] 96 (0, 0))) := ⟨by simp [World.setCell, Array.getElem?_modify, HK6r.out]⟩
    have hfar : ∀ k, k ≠ w.heap.size → (((wr.setCell ⟨w.heap.size, 0, none⟩ (.slice A rl.length cc)).setCell ⟨w.heap.size, 1, none⟩ (.map (some w2.heap.size))).setCell ⟨w.heap.size, 2, none⟩ (.map (some w3.heap.size))).heap[k]? = wr.heap[k]? := fun k hk => by
     rw [Below.heap_setCell _ _ _ _ hk, Below.heap_setCell _ _ _ _ hk, Below.heap_setCell _ _ _ _ hk]
    have hBr : Below w.heap.size w wr := bCh HB5.out (HCW.out.bel.out (HB5.out.size) (fun k hk => by rcases hk with rfl | rfl | rfl <;> omega))
    have hs5r : w5.heap.size ≤ wr.heap.size := HCW.out.bel.size
    refine bodyPost_ret (results_cell_row rfl _ _ w.heap.size 96 #[.slice A rl.length cc, .map (some w2.heap.size), .map (some w3.heap.size)] (0, 0) _ rfl HB6.out Try.underlying96 rfl (by kernel_rfl)) rfl ?_
    exact ⟨k, .slice A rl.length cc, w2.heap.size, w3.heap.size, rfl, hput (hput (hput hBr _ _ (Nat.le_refl _)) _ _ (Nat.le_refl _)) _ _ (Nat.le_refl _), by rw [HV.out]; omega, HJ.out, by rw [HRL.out]; exact Kd.R_mono (Kd.R_lower (Kd.R_step (Kd.R_bound HCW.out.lst) (fun k hk _ => hfar k (by have := hk.2.1; omega))) (by omega)) (fun _ _ => trivial), HCW.out.cost.keep (hfar _ (by omega)), HCW.out.via.keep (hfar _ (by omega))⟩
 ·go_wp2_with (fail)
  have HK6 := Aside0.mk (heap_alloc_new w (Obj.cells #[.slice none 0 0, .map none, .map none] 96))
  have HB : Aside0 (Below w.heap.size w (w.alloc (Obj.cells #[.slice none 0 0, .map none, .map none] 96))) := ⟨(Below.refl _ _).alloc (Nat.le_refl _) _⟩
  generalize w.alloc (Obj.cells #[.slice none 0 0, .map none, .map none] 96) = w1 at HK6 HB ⊢
  go_step3
  go_wp2_with (fail)
  refine (Metric_Hier.calls ((HM.out.below HB.out).reads HK.out (by omega))).mono ?_
  rintro e w1' ⟨rfl, rfl⟩
  go_wp2_with (fail)
  refine (Hier_Edges.calls (HM.out.below HB.out).hier (by rw [HME.out]; omega)).mono ?_
  rintro e w2 ⟨ev, rfl, hr2, hb2⟩
  obtain ⟨eA, ec, rfl⟩ := Kd.R_slice hr2
  have HE := Aside0.mk hr2
  have HB2 := Aside0.mk (below_then HB.out HB.out.size hb2)
  have HK62 := Aside0.mk (blk_below HK6.out hb2)
  clear hr2 hb2
  go_wp2_with (first
   | (refine wp_insert_map (encE := Value.int .i64) qKey Try.underlying94 rfl _ _ _ rfl rfl (MapIs.made w2) s 0 rfl rfl rfl ?_
      intro w3 hm3 hg3
      have HM3 := Aside0.mk hm3
      have HG3 := Aside0.mk hg3
      clear hm3 hg3)
   | (refine wp_insert_map (encE := Value.int .i64) qKey Try.underlying94 rfl _ _ _ rfl rfl (MapIs.made w3) s (-1) rfl rfl rfl ?_
      intro w4 hm4 hg4
      have HM4 := Aside0.mk hm4
      have HG4 := Aside0.mk hg4
      clear hm4 hg4))
  -- THE LOOPS
  go_step3
  go_wp2_with (fail)
  have hs3 : w2.heap.size < w3.heap.size := HM3.out.lt
  have hs4 : w3.heap.size < w4.heap.size := HM4.out.lt
  have hX5 := heap_alloc_new w4 (Obj.cells #[.slice none 0 0, .map (some w2.heap.size), .map (some w3.heap.size)] 96)
  have hs5 : (w4.alloc (Obj.cells #[.slice none 0 0, .map (some w2.heap.size), .map (some w3.heap.size)] 96)).heap.size = w4.heap.size + 1 := World.size_alloc ..
  have hb45 : Below w4.heap.size w4 (w4.alloc (Obj.cells #[.slice none 0 0, .map (some w2.heap.size), .map (some w3.heap.size)] 96)) := (Below.refl _ _).alloc (Nat.le_refl _) _
  have hsa2 : (w2.alloc (Obj.map #[] 0)).heap.size = w2.heap.size + 1 := World.size_alloc ..
  have hsa3 : (w3.alloc (Obj.map #[] 0)).heap.size = w3.heap.size + 1 := World.size_alloc ..
  have hb23 : Below w2.heap.size w2 w3 := ((Below.refl _ _).alloc (Nat.le_refl _) _).grown HG3.out (by omega) (fun k hk => Nat.le_of_eq (Option.some.inj hk))
  have hb34 : Below w2.heap.size w3 w4 := ((Below.refl _ _).alloc (by omega) _).grown HG4.out (by omega) (fun k hk => by have := Option.some.inj hk; omega)
  have hm35 : MapIs (Value.int .i64) (Value.int .i64) w4 w2.heap.size (mput [] s 0) := (HM3.out.alloc _).grown HG4.out (fun e => by have := Option.some.inj e; omega)
  have HCW0 : Aside0 (CW (w4.alloc (Obj.cells #[.slice none 0 0, .map (some w2.heap.size), .map (some w3.heap.size)] 96)) (w4.alloc (Obj.cells #[.slice none 0 0, .map (some w2.heap.size), .map (some w3.heap.size)] 96)) w4.heap.size w2.heap.size w3.heap.size (w4.alloc (Obj.cells #[.slice none 0 0, .map (some w2.heap.size), .map (some w3.heap.size)] 96)).heap.size (.slice none 0 0) [] [(s, 0)] [(s, -1)]) := ⟨⟨Bel.refl _ _, hX5, hm35.below hb45, HM4.out.below hb45, Kd.R_nil _ _ _ _ _, ⟨hs3, hs4, by omega⟩, Nat.le_refl _⟩⟩
  have hb25 : Below w2.heap.size w2 (w4.alloc (Obj.cells #[.slice none 0 0, .map (some w2.heap.size), .map (some w3.heap.size)] 96)) := bCh (bCh hb23 hb34) (bLo hb45 (by omega))
  have HB5 : Aside0 (Below w.heap.size w (w4.alloc (Obj.cells #[.slice none 0 0, .map (some w2.heap.size), .map (some w3.heap.size)] 96))) := ⟨bCh HB2.out (bLo hb25 HB2.out.size)⟩
  have HK65 := Aside0.mk ((hb25.block w.heap.size (hblk_lt HK62.out)).trans HK62.out)
  have HES : Aside0 (∀ W', Bel (fun k => k = w2.heap.size ∨ k = w3.heap.size ∨ k = w4.heap.size) (w4.alloc (Obj.cells #[.slice none 0 0, .map (some w2.heap.size), .map (some w3.heap.size)] 96)) W' → Kd.C k58 W' eA (hierS n arcs L).edges.length (hierS n arcs L).edges) := ⟨fun W' hW => (Kd.R_reads' (Kd.R_move (Kd.R_bound HE.out) (w1 := W') (fun k hk => (hW.block k (by have := hk.2.2.1; omega) (fun hT => by have := hk.2.2.1; omega)).trans (hb25.block k hk.2.2.1)))).2.2⟩
  have hsb : w.heap.size ≤ w2.heap.size := HB2.out.size
  have h6lt : w.heap.size < w2.heap.size := hblk_lt HK62.out
  clear hX5 hb45 hsa2 hsa3 hb23 hb34 hm35 hb25 HM3 HG3 HM4 HG4 HE HB2 HK62 HK6 HB
  generalize w4.alloc (Obj.cells #[.slice none 0 0, .map (some w2.heap.size), .map (some w3.heap.size)] 96) = w5 at hs5 HCW0 HB5 HK65 HES ⊢
  go_loopw [11] (fun v wr => ∃ (k : Nat) (lv : Value), v = .int .i64 (curP n (hierS n arcs L) s k) ∧ Aside0 (∀ j, j < k → 0 ≤ curP n (hierS n arcs L) s j) ∧ Aside0 (CW w5 wr w4.heap.size w2.heap.size w3.heap.size w5.heap.size lv ((climbS n (hierS n arcs L) wl s k).l.map toR) (climbS n (hierS n arcs L) wl s k).cost (climbS n (hierS n arcs L) wl s k).via)) (fun v _ => climbM n L (intOf v))
  case atStart => exact ⟨0, .slice none 0 0, rfl, ⟨fun j hj => by omega⟩, HCW0⟩
  case round =>
   clear HCW0
   obtain ⟨k, lv, rfl, HJ, HCW⟩ := hrel
   have HIV := Aside0.mk (HCI.out k HJ.out)
   obtain ⟨v, HV⟩ : ∃ v, Aside0 (curP n (hierS n arcs L) s k = v) := ⟨_, ⟨rfl⟩⟩
   have HNX : Aside0 (curP n (hierS n arcs L) s (k + 1) = parentS n (hierS n arcs L) v) := ⟨by rw [← HV.out]; rfl⟩
   have hx0 := (blk_cell HCW.out.blk 0).trans rfl
   have hx1 := (blk_cell HCW.out.blk 1).trans rfl
   have hx2 := (blk_cell HCW.out.blk 2).trans rfl
   rw [HV.out]
   by_cases hv0 : 0 ≤ v
   ·cases hg : mget (climbS n (hierS n arcs L) wl s k).cost v with
    | none =>
     have HG0 := Aside0.mk hg
     have hgs : mget (climbS n (hierS n arcs L) wl s k).cost (curP n (hierS n arcs L) s k) = none := by rw [HV.out]; exact hg
     have HST := Aside0.mk (climbS_none hgs)
     clear hg hgs
     have hBr : Below w.heap.size w wr := bCh HB5.out (HCW.out.bel.out (HB5.out.size) (fun k hk => by rcases hk with rfl | rfl | rfl <;> omega))
     have HHr := Aside0.mk (HM.out.below hBr).hier
     clear hBr
     go_wp2_with (refine wp_lookup_map qKey Try.underlying94 0 zeroI_ rfl _ _ true rfl HCW.out.cost v rfl rfl (.tuple #[.int .i64 0, .bool false]) (by rw [HG0.out]; rfl) ?_)
     refine (Hier_Parent.calls HHr.out HK.out.ok v).mono ?_
     rintro e w11 ⟨rfl, hb11⟩
     have HC11 := Aside0.mk (HCW.out.below hb11)
     clear hb11 hx0 hx1 hx2
     have HJ2 : Aside0 (∀ j', j' < k + 1 → 0 ≤ curP n (hierS n arcs L) s j') := ⟨fun j' hj' => by
      by_cases e : j' = k
      ·rw [e, HV.out]; exact hv0
      ·exact HJ.out j' (by omega)⟩
     have HMS := Aside0.mk (HME2.out k HJ2.out)
     go_wp2_with (fail)
     go_roundw
     case rel => exact ⟨k + 1, lv, by rw [HNX.out], HJ2, by rw [HST.out]; exact HC11⟩
     case measure =>
      have h1 := HMS.out
      rw [HNX.out, HV.out] at h1
      exact h1
    | some c =>
     have HG0 := Aside0.mk hg
     have hcb := HWB.out _ _ (HIV.out.att v c hg)
     have hcb0 := hcb.1
     have hcb1 := hcb.2
     have hrl : ((climbS n (hierS n arcs L) wl s k).l.map toR).length ≤ 1000 := by
      rw [List.length_map, HIV.out.lst]
      refine Nat.le_trans (List.length_filterMap_le _ _) ?_
      rw [List.length_range]
      by_cases hk0 : k = 0
      ·omega
      ·obtain ⟨y, h2, h3, _⟩ := HCU.out (k - 1) (HJ.out (k - 1) (by omega))
       omega
     clear hg hcb
     obtain ⟨A, cc, rfl⟩ := Kd.R_slice HCW.out.lst
     obtain ⟨rl, HRL⟩ : ∃ rl, Aside0 ((climbS n (hierS n arcs L) wl s k).l.map toR = rl) := ⟨_, ⟨rfl⟩⟩
     rw [HRL.out] at HCW hx0 hrl
     have hszr : w5.heap.size ≤ wr.heap.size := HCW.out.bel.size
     go_upto_region 12 with (refine wp_lookup_map qKey Try.underlying94 0 zeroI_ rfl _ _ true rfl HCW.out.cost v rfl rfl (.tuple #[.int .i64 c, .bool true]) (by rw [HG0.out]; rfl) ?_)
     go_wp2_with (
      refine Kd.R_append k50 (w0 := wr) w5.heap.size (by rfl) (.tmp 52) (.tmp 56) 43 50 (.agg #[(.int .i64 0), (.int .i64 0)]) 16 rfl Try.underlying43 info50 rfl (by decide) (by decide) (.slice A rl.length cc) rl ⟨v, c⟩ [.int .i64 v, .int .i64 c] (fun _ => True) (fun _ => False) rfl rfl ?aP (fun _ hk => hk.elim) ?aF ?aO ?aB ?aS ?aL ?_
      (case aP => exact k50_mkM _ _ _ _)
      (case aF => exact (fun _ _ => trivial))
      (case aO => exact Kd.R_mono HCW.out.lst (fun _ _ => trivial))
      (case aB => exact Below.refl _ _)
      (case aS => exact hszr)
      (case aL => omega)
      intro v1 w6 ho1 hb1 hg1 hat1
      obtain ⟨A1, c1, rfl⟩ := Kd.R_slice ho1
      have HR1 := Aside0.mk ho1
      have HB1 := Aside0.mk hb1
      have HG1 := Aside0.mk hg1
      have hf4 : w6.frozen? ⟨w4.heap.size, 0, none⟩ = false := blk_frozen ((hb1.block w4.heap.size (by omega)).trans HCW.out.blk) 0
      have hx0b : w6.cell? ⟨w4.heap.size, 0, none⟩ = some (.slice A rl.length cc) := cell_keep (hb1.block w4.heap.size (by omega)) hx0
      clear ho1 hb1 hg1 hat1 hx0)
     have HC7 := Aside0.mk (HCW.out.push HR1.out HB1.out (HCW.out.bel.grown HG1.out (fun k hk => .inr (Kd.R_base HCW.out.lst k hk))))
     rw [show (rl ++ [(⟨v, c⟩ : S50)]).length = rl.length + 1 by simp] at HC7
     generalize w6.setCell ⟨w4.heap.size, 0, none⟩ (.slice A1 (rl.length + 1) c1) = w7 at HC7 ⊢
     generalize Value.slice A1 (rl.length + 1) c1 = v1 at HC7
     have hBr : Below w.heap.size w w7 := bCh HB5.out (HC7.out.bel.out (HB5.out.size) (fun k hk => by rcases hk with rfl | rfl | rfl <;> omega))
     have HHr := Aside0.mk (HM.out.below hBr).hier
     clear hBr hf4 hx0b HCW HR1 HB1 HG1 hx1 hx2
     refine (Hier_Up.calls HHr.out HK.out.ok v (Nat.le_trans (HK.out.capu7 (by omega) v.toNat) (show 1000000 ≤ 1000000000 by decide))).mono ?_
     rintro e w8 ⟨uv, rfl, hr8, hb8⟩
     have HC8 := Aside0.mk (HC7.out.below hb8)
     have hs7 : w5.heap.size ≤ w7.heap.size := HC7.out.bel.size
     obtain ⟨un, HUN⟩ : ∃ un, Aside0 ((upS n (hierS n arcs L) v).length = un) := ⟨_, ⟨rfl⟩⟩
     have hul : un ≤ 1000000 := by
      rw [← HUN.out]
      unfold upS
      split
      ·exact HK.out.capu7 (by omega) v.toNat
      ·simp
     obtain ⟨uA, uc, rfl⟩ := Kd.R_slice hr8
     have HUS : Aside0 (∀ W', Bel (fun k => k = w2.heap.size ∨ k = w3.heap.size ∨ k = w4.heap.size) w8 W' → Kd.C (Kd.int .i64) W' uA (upS n (hierS n arcs L) v).length (upS n (hierS n arcs L) v)) := ⟨fun W' hW => (Kd.R_reads' (Kd.R_move (Kd.R_bound hr8) (w1 := W') (fun k hk => hW.block k hk.2.2.1 (fun hT => by have := hk.2.1; omega)))).2.2⟩
     rw [HUN.out]
     clear hr8 hb8 HC7 HHr
     have HBU0 : Aside0 (Bel (fun k => k = w2.heap.size ∨ k = w3.heap.size ∨ k = w4.heap.size) w8 w8) := ⟨Bel.refl _ _⟩
     go_wp2_with (fail)
     go_loopw [63] (fun i wq => ∃ (j : Nat) (C' V' : CM), i = .int .i64 (j : Int) ∧ j ≤ un ∧ Aside0 (((upS n (hierS n arcs L) v).take j).foldl (relaxG (toS (hierS n arcs L).edges) (sideS wl) c) ((climbS n (hierS n arcs L) wl s k).cost, (climbS n (hierS n arcs L) wl s k).via) = (C', V')) ∧ Aside0 (Bel (fun k => k = w2.heap.size ∨ k = w3.heap.size ∨ k = w4.heap.size) w8 wq) ∧ Aside0 (CW w5 wq w4.heap.size w2.heap.size w3.heap.size w5.heap.size v1 (rl ++ [⟨v, c⟩]) C' V')) (fun i _ => un - (intOf i).toNat)
     case atStart => exact ⟨0, _, _, rfl, Nat.zero_le _, ⟨rfl⟩, HBU0, HC8⟩
     case round =>
      clear HBU0 HC8
      obtain ⟨j, C', V', rfl, hj, HFO, HBU, HC9⟩ := hrel
      by_cases hjl : j < un
      ·rcases cells_of_C (HUS.out _ HBU.out) with ⟨hz, _⟩ | ⟨_, ub, uo, hA1, hce⟩
       ·have := HUN.out
        omega
       subst hA1
       have hca := hce j (by rw [HUN.out]; exact hjl)
       clear hce
       have HFS : Aside0 (((upS n (hierS n arcs L) v).take (j + 1)).foldl (relaxG (toS (hierS n arcs L).edges) (sideS wl) c) ((climbS n (hierS n arcs L) wl s k).cost, (climbS n (hierS n arcs L) wl s k).via) = (relaxG (toS (hierS n arcs L).edges) (sideS wl) c) (C', V') ((upS n (hierS n arcs L) v).getD j 0)) := ⟨by
        rw [foldl_take_succ _ _ (by rw [HUN.out]; exact hjl), HFO.out]⟩
       obtain ⟨i, hi, hil, hi0⟩ := HK.out.of_up (mem_getD (l := upS n (hierS n arcs L) v) (i := j) (by rw [HUN.out]; exact hjl))
       rw [hi] at hca HFS
       have HWI0 := Aside0.mk (side_wt (n := n) (arcs := arcs) (L := L) (ws := ws) (b := true) hil)
       rw [HWL.out] at HWI0
       have hws := HWS.out i hil
       rw [← HWI0.out] at hws
       obtain ⟨W, HWI⟩ : ∃ W, Aside0 (sideS wl (i : Int) = W) := ⟨_, ⟨rfl⟩⟩
       obtain ⟨u, HTU⟩ : ∃ u, Aside0 (toS (hierS n arcs L).edges (i : Int) = u) := ⟨_, ⟨rfl⟩⟩
       rw [HWI.out] at hws
       have hwp : 0 ≤ W := by
        rw [← HWI.out, HWI0.out]
        exact (wtS_bound (n := n) (arcs := arcs) (L := L) (ws := ws) (b := true) i).1
       clear HWI0 hi hi0
       have hBr : Below w.heap.size w wr := bCh HB5.out (HC9.out.bel.out (HB5.out.size) (fun k hk => by rcases hk with rfl | rfl | rfl <;> omega))
       have HMR := Aside0.mk ((HM.out.below hBr).reads HK.out (by omega))
       have hEC := HES.out _ HC9.out.bel
       obtain ⟨ae, hA2, hx0, hxT⟩ := at_T58 hEC (i : Int) (by omega) (by have : i < (hierS n arcs L).edges.length := hil; omega)
       subst hA2
       have HTE : Aside0 ((rd_T58 (hierS n arcs L).edges (i : Int)).f1 = u) := HTU
       rw [HTE.out] at hxT
       simp only [Int.toNat_natCast] at hx0 hxT
       clear hx0 hBr hEC
       go_wp2_with (fail)
       refine (Metric_Down.calls HMR.out (i : Int)).mono ?_
       rintro e w10 ⟨rfl, rfl⟩
       rw [show (sdS n arcs L ws).2 = wl from HWL.out, HWI.out]
       unfold mInf at hws
       have hx1b := (blk_cell HC9.out.blk 1).trans rfl
       by_cases hW : W ≥ 1152921504606846976
       ·have HWY : Aside0 (W ≥ mInf) := ⟨by unfold mInf; exact hW⟩
        clear hws
        have HFN : Aside0 (((upS n (hierS n arcs L) v).take (j + 1)).foldl (relaxG (toS (hierS n arcs L).edges) (sideS wl) c) ((climbS n (hierS n arcs L) wl s k).cost, (climbS n (hierS n arcs L) wl s k).via) = (C', V')) := ⟨by rw [HFS.out]; unfold relaxG; rw [HWI.out, if_pos HWY.out]⟩
        go_wp2_with (fail)
        go_roundw
        case rel => exact ⟨j + 1, _, _, by go_num, by omega, HFN, HBU, HC9⟩
        case measure => simp [intOf]; omega
       ·have hws2 := hws (by omega)
        have HWN : Aside0 (W < mInf) := ⟨by unfold mInf; omega⟩
        clear hws
        have hil2 : i < m := by have : i < (hierS n arcs L).edges.length := hil; have := HME.out; omega
        cases hgu : mget C' u with
        | none =>
         have hlk : Aside0 (mget C' u = none) := ⟨hgu⟩
         clear hgu
         go_upto_region 21 with (refine wp_lookup_map qKey Try.underlying94 0 zeroI_ rfl _ _ true rfl HC9.out.cost u rfl rfl (.tuple #[.int .i64 0, .bool false]) (by rw [hlk.out]; rfl) ?_)
         have hx1 := (blk_cell HC9.out.blk 1).trans rfl
         have hx2 := (blk_cell HC9.out.blk 2).trans rfl
         refine s_ (fun w' => w'.cell? ⟨w4.heap.size, 1, none⟩ = some (.map (some w2.heap.size)) ∧ w'.cell? ⟨w4.heap.size, 2, none⟩ = some (.map (some w3.heap.size))) [11] ⟨hx1, hx2⟩ (fun hHeld => ?_)
         have hbd : Below w10.heap.size w10 w10.drew := below_drew (Below.refl _ _)
         have HCD := Aside0.mk (HC9.out.below hbd)
         have HBD := Aside0.mk (HBU.out.below hbd)
         generalize w10.drew = wd at HCD HBD hHeld ⊢
         clear hbd hx1 hx2
         refine p_ 0 93 ?_
         refine t2_ 1 94 hHeld ?_
         refine p_ 2 95 ?_
         refine p_ 3 96 ?_
         refine t2_ 4 97 hHeld ?_
         refine p_ 5 98 ?_
         refine p_ 6 99 ?_
         refine p_ 7 100 ?_
         have hwr : wrap64 (c + W) = c + W := by unfold wrap64; omega
         refine p_ 8 101 ?_
         rw [hwr]
         refine p_ 9 102 ?_
         refine oN_ 10 (fun K hK => ?_)
         refine step_mapUpdate (encE := Value.int .i64) qKey Try.underlying94 rfl rfl _ _ _ rfl HCD.out.cost u (c + W) rfl rfl rfl (fun w9 HM9 HG9 => ?_)
         have HCE := Aside0.mk (HCD.out.putC HM9.out HG9.out)
         refine hK.out _ _ ⟨(blk_cell HCE.out.blk 1).trans rfl, (blk_cell HCE.out.blk 2).trans rfl⟩ (fun hHeld => ?_)
         clear hK K
         have HBE := Aside0.mk (HBD.out.grown HG9.out (fun k hk => .inl (.inl (Option.some.inj hk).symm)))
         clear HCD HBD HM9 HG9
         refine l_ 11 (fun K hK => ?_)
         refine step_mapUpdate (encE := Value.int .i64) qKey Try.underlying94 rfl rfl _ _ _ rfl HCE.out.via u (i : Int) rfl rfl rfl (fun w9b HM9 HG9 => ?_)
         refine hK.out _ _ ?_
         clear hK K
         have HCF := Aside0.mk (HCE.out.putV HM9.out HG9.out)
         have HBF := Aside0.mk (HBE.out.grown HG9.out (fun k hk => .inl (.inr (.inl (Option.some.inj hk).symm))))
         clear HCE HBE HM9 HG9
         refine d_ ?_
         clear hHeld
         have HFN : Aside0 (((upS n (hierS n arcs L) v).take (j + 1)).foldl (relaxG (toS (hierS n arcs L).edges) (sideS wl) c) ((climbS n (hierS n arcs L) wl s k).cost, (climbS n (hierS n arcs L) wl s k).via) = (mput C' u (c + W), mput V' u (i : Int))) := ⟨by rw [HFS.out]; unfold relaxG; rw [HTU.out, HWI.out]; rw [if_neg (Int.not_le.2 HWN.out), hlk.out]⟩
         go_wp2_with (fail)
         go_roundw
         case rel => exact ⟨j + 1, _, _, by go_num, by omega, HFN, HBF, HCF⟩
         case measure => simp [intOf]; omega
        | some old =>
         have hlk : Aside0 (mget C' u = some old) := ⟨hgu⟩
         clear hgu
         by_cases hlt : c + W < old
         ·go_upto_region 21 with (refine wp_lookup_map qKey Try.underlying94 0 zeroI_ rfl _ _ true rfl HC9.out.cost u rfl rfl (.tuple #[.int .i64 old, .bool true]) (by rw [hlk.out]; rfl) ?_)
          have hx1 := (blk_cell HC9.out.blk 1).trans rfl
          have hx2 := (blk_cell HC9.out.blk 2).trans rfl
          refine s_ (fun w' => w'.cell? ⟨w4.heap.size, 1, none⟩ = some (.map (some w2.heap.size)) ∧ w'.cell? ⟨w4.heap.size, 2, none⟩ = some (.map (some w3.heap.size))) [11] ⟨hx1, hx2⟩ (fun hHeld => ?_)
          have hbd : Below w10.heap.size w10 w10.drew := below_drew (Below.refl _ _)
          have HCD := Aside0.mk (HC9.out.below hbd)
          have HBD := Aside0.mk (HBU.out.below hbd)
          generalize w10.drew = wd at HCD HBD hHeld ⊢
          clear hbd hx1 hx2
          refine p_ 0 93 ?_
          refine t2_ 1 94 hHeld ?_
          refine p_ 2 95 ?_
          refine p_ 3 96 ?_
          refine t2_ 4 97 hHeld ?_
          refine p_ 5 98 ?_
          refine p_ 6 99 ?_
          refine p_ 7 100 ?_
          have hwr : wrap64 (c + W) = c + W := by unfold wrap64; omega
          refine p_ 8 101 ?_
          rw [hwr]
          refine p_ 9 102 ?_
          refine oN_ 10 (fun K hK => ?_)
          refine step_mapUpdate (encE := Value.int .i64) qKey Try.underlying94 rfl rfl _ _ _ rfl HCD.out.cost u (c + W) rfl rfl rfl (fun w9 HM9 HG9 => ?_)
          have HCE := Aside0.mk (HCD.out.putC HM9.out HG9.out)
          refine hK.out _ _ ⟨(blk_cell HCE.out.blk 1).trans rfl, (blk_cell HCE.out.blk 2).trans rfl⟩ (fun hHeld => ?_)
          clear hK K
          have HBE := Aside0.mk (HBD.out.grown HG9.out (fun k hk => .inl (.inl (Option.some.inj hk).symm)))
          clear HCD HBD HM9 HG9
          refine l_ 11 (fun K hK => ?_)
          refine step_mapUpdate (encE := Value.int .i64) qKey Try.underlying94 rfl rfl _ _ _ rfl HCE.out.via u (i : Int) rfl rfl rfl (fun w9b HM9 HG9 => ?_)
          refine hK.out _ _ ?_
          clear hK K
          have HCF := Aside0.mk (HCE.out.putV HM9.out HG9.out)
          have HBF := Aside0.mk (HBE.out.grown HG9.out (fun k hk => .inl (.inr (.inl (Option.some.inj hk).symm))))
          clear HCE HBE HM9 HG9
          refine d_ ?_
          clear hHeld
          have HFN : Aside0 (((upS n (hierS n arcs L) v).take (j + 1)).foldl (relaxG (toS (hierS n arcs L).edges) (sideS wl) c) ((climbS n (hierS n arcs L) wl s k).cost, (climbS n (hierS n arcs L) wl s k).via) = (mput C' u (c + W), mput V' u (i : Int))) := ⟨by rw [HFS.out]; unfold relaxG; rw [HTU.out, HWI.out]; rw [if_neg (Int.not_le.2 HWN.out), hlk.out]; dsimp only; rw [if_pos hlt]⟩
          go_wp2_with (fail)
          go_roundw
          case rel => exact ⟨j + 1, _, _, by go_num, by omega, HFN, HBF, HCF⟩
          case measure => simp [intOf]; omega
         ·have HFN : Aside0 (((upS n (hierS n arcs L) v).take (j + 1)).foldl (relaxG (toS (hierS n arcs L).edges) (sideS wl) c) ((climbS n (hierS n arcs L) wl s k).cost, (climbS n (hierS n arcs L) wl s k).via) = (C', V')) := ⟨by rw [HFS.out]; unfold relaxG; rw [HTU.out, HWI.out]; rw [if_neg (Int.not_le.2 HWN.out), hlk.out]; dsimp only; rw [if_neg hlt]⟩
          go_wp2_with (refine wp_lookup_map qKey Try.underlying94 0 zeroI_ rfl _ _ true rfl HC9.out.cost u rfl rfl (.tuple #[.int .i64 old, .bool true]) (by rw [hlk.out]; rfl) ?_)
          go_roundw
          case rel => exact ⟨j + 1, _, _, by go_num, by omega, HFN, HBU, HC9⟩
          case measure => simp [intOf]; omega
      ·obtain rfl : j = un := by omega
       have hfull : (upS n (hierS n arcs L) v).take j = upS n (hierS n arcs L) v := List.take_of_length_le (by rw [HUN.out]; exact Nat.le_refl _)
       rw [hfull] at HFO
       have hgs : mget (climbS n (hierS n arcs L) wl s k).cost (curP n (hierS n arcs L) s k) = some c := by rw [HV.out]; exact HG0.out
       have hst := climbS_some hgs
       rw [HV.out, HFO.out] at hst
       have HST := Aside0.mk hst
       clear hst hgs hfull
       have hBr : Below w.heap.size w wr := bCh HB5.out (HC9.out.bel.out (HB5.out.size) (fun k hk => by rcases hk with rfl | rfl | rfl <;> omega))
       have HHr := Aside0.mk (HM.out.below hBr).hier
       clear hBr
       go_wp2_with (fail)
       refine (Hier_Parent.calls HHr.out HK.out.ok v).mono ?_
       rintro e w11 ⟨rfl, hb11⟩
       have HC11 := Aside0.mk (HC9.out.below hb11)
       clear hb11
       have HJ2 : Aside0 (∀ j', j' < k + 1 → 0 ≤ curP n (hierS n arcs L) s j') := ⟨fun j' hj' => by
        by_cases e : j' = k
        ·rw [e, HV.out]; exact hv0
        ·exact HJ.out j' (by omega)⟩
       have HCN : Aside0 (CW w5 w11 w4.heap.size w2.heap.size w3.heap.size w5.heap.size v1 ((climbS n (hierS n arcs L) wl s (k + 1)).l.map toR) (climbS n (hierS n arcs L) wl s (k + 1)).cost (climbS n (hierS n arcs L) wl s (k + 1)).via) := ⟨by
        rw [HST.out]
        dsimp only
        rw [List.map_append, HRL.out]
        exact HC11.out⟩
       have HMS := Aside0.mk (HME2.out k HJ2.out)
       go_wp2_with (fail)
       go_roundw
       case rel => exact ⟨k + 1, v1, by rw [HNX.out], HJ2, HCN⟩
       case measure =>
        have h1 := HMS.out
        rw [HNX.out, HV.out] at h1
        exact h1
   ·obtain ⟨rl, HRL⟩ : ∃ rl, Aside0 ((climbS n (hierS n arcs L) wl s k).l.map toR = rl) := ⟨_, ⟨rfl⟩⟩
    rw [HRL.out] at HCW
    obtain ⟨A, cc, rfl⟩ := Kd.R_slice HCW.out.lst
    have HK6r := Aside0.mk ((HCW.out.bel.block w.heap.size (hblk_lt HK65.out) (by omega)).trans HK65.out)
    have e0 := (blk_cell HK6r.out 0).trans rfl
    have e1 := (blk_cell HK6r.out 1).trans rfl
    have e2 := (blk_cell HK6r.out 2).trans rfl
    have g0 : wr.frozen? ⟨w.heap.size, 0, none⟩ = false := blk_frozen HK6r.out 0
    have g1 : wr.frozen? ⟨w.heap.size, 1, none⟩ = false := blk_frozen HK6r.out 1
    have g2 : wr.frozen? ⟨w.heap.size, 2, none⟩ = false := blk_frozen HK6r.out 2
    go_wp2_with (fail)
    have HB6 : Aside0 ((((wr.setCell ⟨w.heap.size, 0, none⟩ (.slice A rl.length cc)).setCell ⟨w.heap.size, 1, none⟩ (.map (some w2.heap.size))).setCell ⟨w.heap.size, 2, none⟩ (.map (some w3.heap.size))).heap[w.heap.size]? = some (.cells #[.slice A rl.length cc, .map (some w2.heap.size), .map (some w3.heap.size)] 96 (0, 0))) := ⟨by simp [World.setCell, Array.getElem?_modify, HK6r.out]⟩
    have hfar : ∀ k, k ≠ w.heap.size → (((wr.setCell ⟨w.heap.size, 0, none⟩ (.slice A rl.length cc)).setCell ⟨w.heap.size, 1, none⟩ (.map (some w2.heap.size))).setCell ⟨w.heap.size, 2, none⟩ (.map (some w3.heap.size))).heap[k]? = wr.heap[k]? := fun k hk => by
     rw [Below.heap_setCell _ _ _ _ hk, Below.heap_setCell _ _ _ _ hk, Below.heap_setCell _ _ _ _ hk]
    have hBr : Below w.heap.size w wr := bCh HB5.out (HCW.out.bel.out (HB5.out.size) (fun k hk => by rcases hk with rfl | rfl | rfl <;> omega))
    have hs5r : w5.heap.size ≤ wr.heap.size := HCW.out.bel.size
    refine bodyPost_ret (results_cell_row rfl _ _ w.heap.size 96 #[.slice A rl.length cc, .map (some w2.heap.size), .map (some w3.heap.size)] (0, 0) _ rfl HB6.out Try.underlying96 rfl (by kernel_rfl)) rfl ?_
    exact ⟨k, .slice A rl.length cc, w2.heap.size, w3.heap.size, rfl, hput (hput (hput hBr _ _ (Nat.le_refl _)) _ _ (Nat.le_refl _)) _ _ (Nat.le_refl _), by rw [HV.out]; omega, HJ.out, by rw [HRL.out]; exact Kd.R_mono (Kd.R_lower (Kd.R_step (Kd.R_bound HCW.out.lst) (fun k hk _ => hfar k (by have := hk.2.1; omega))) (by omega)) (fun _ _ => trivial), HCW.out.cost.keep (hfar _ (by omega)), HCW.out.via.keep (hfar _ (by omega))⟩
end Go.Proofs.Ytfnophaiamkmpaa.Print
