import Derived.Test.YtfnophaiamkmpaaM23
import Derived.Test.YtfnophaiamkmpaaM19
import Derived.Test.YtfnophaiamkmpaaHKRead5
namespace Go.Proofs.Ytfnophaiamkmpaa.Print
open Go.RowKit Go.Proofs.YtfnophaiamkmpaaW.PrintWords Go.Proofs.YtfnophaiamkmpaaW.PrintLast Go.Proofs.YtfnophaiamkmpaaW.PrintMore
set_option linter.unusedVariables false
set_option linter.unusedSimpArgs false
theorem run_field_graph (n A : Value) (w : World) : (Instr.field 24 (.agg #[n, A]) 1).run Try.prog w = .ok A w := by cases n <;> cases A <;> kernel_rfl
structure UnpR (w : World) (pu q p n : Nat) (arcs : List S58) (L ws : List Int) : Prop where
 out : ∃ (eA : Option Addr) (ec ma : Nat) (wA : Option Addr) (wc : Nat), w.heap[pu]? = some (.cells #[.pointer (some ⟨q, 0, none⟩), .slice eA (hierS n arcs L).edges.length ec, .map (some ma), .slice wA ws.length wc] 100 (0, 0)) ∧ Kd.C k58 w eA (hierS n arcs L).edges.length (hierS n arcs L).edges ∧ MapIs encP (Value.int .i64) w ma (amTo arcs ws arcs.length) ∧ Kd.C (Kd.int .i64) w wA ws.length ws ∧ MetH w q p n arcs L ws
theorem UnpR.below {w w1 : World} {pu q p n : Nat} {arcs : List S58} {L ws : List Int} (h : UnpR w pu q p n arcs L ws) (hb : Below w.heap.size w w1) : UnpR w1 pu q p n arcs L ws := by
 obtain ⟨eA, ec, ma, wA, wc, h1, h2, h3, h4, h5⟩ := h.out
 exact ⟨eA, ec, ma, wA, wc, blk_below h1 hb, Kd.C_below h2 hb, h3.below hb, Kd.C_below h4 hb, h5.below hb⟩
theorem cells_all {w : World} {A : Option Addr} {l : List Int} (h : Kd.C (Kd.int .i64) w A l.length l) : ∀ i, i < l.length → ∃ ab ao, A = some ⟨ab, ao, none⟩ ∧ w.cell? ⟨ab, ao + i, none⟩ = some (.int .i64 (l.getD i 0)) := fun i hi => by
 rcases cells_of_C h with ⟨hz, _⟩ | ⟨_, ab, ao, hA1, hce⟩
 ·rw [hz] at hi
  simp at hi
 ·exact ⟨ab, ao, hA1, hce i hi⟩
set_option maxHeartbeats 12800000 in
set_option maxRecDepth 100000 in
theorem query_newUnpacker.calls {w : World} {q p n : Nat} {arcs : List S58} {L ws : List Int} (hk : Hk n arcs L) (hn : n ≤ 1000) (hM : MetH w q p n arcs L ws) (hal : arcs.length ≤ 1000000) (hwl : ws.length = arcs.length) :
  Calls Try.prog 49 #[.pointer (some ⟨q, 0, none⟩)] w fun e w' => ∃ pu, e = .returned (.pointer (some ⟨pu, 0, none⟩)) ∧ Below w.heap.size w w' ∧ UnpR w' pu q p n arcs L ws := by
 have HK := Aside0.mk hk
 have HM := Aside0.mk hM
 have HWL := Aside0.mk hwl
 have HAM := Aside0.mk (fun k => amTo_ok arcs ws k)
 have hsh := hk.short hn
 have hmk := @run_makeMap Try.prog
 obtain ⟨m, HME⟩ : ∃ m, Aside0 ((hierS n arcs L).edges.length = m) := ⟨_, ⟨rfl⟩⟩
 rw [HME.out] at hsh
 clear hk hM hwl
 go_enter Try.func49, Try.ntmps49
 go_wp2_with (fail)
 refine (Metric_Hier.calls (HM.out.reads HK.out hn)).mono ?_
 rintro e w0 ⟨rfl, rfl⟩
 go_wp2_with (fail)
 refine (Hier_Edges.calls HM.out.hier (by rw [HME.out]; omega)).mono ?_
 rintro e w1 ⟨ev, rfl, hr1, hb1⟩
 obtain ⟨eA, ec, rfl⟩ := Kd.R_slice hr1
 have HE := Aside0.mk hr1
 have HB1 := Aside0.mk hb1
 have hmw0 : w0.heap.size ≤ w1.heap.size := hb1.size
 clear hr1 hb1
 go_wp2_with (fail)
 have hba : Below w1.heap.size w1 (w1.alloc (Obj.map #[] 0)) := (Below.refl _ _).alloc (Nat.le_refl _) _
 have HMA : Aside0 (MapIs encP (Value.int .i64) (w1.alloc (Obj.map #[] 0)) w1.heap.size []) := ⟨MapIs.made w1⟩
 have HE1 := Aside0.mk (Kd.R_below HE.out hba)
 have HLT : Aside0 (∀ k, (Value.slice eA (hierS n arcs L).edges.length ec).ownBlock = some k → k < w1.heap.size) := ⟨fun k hk => Kd.R_lt HE.out k hk⟩
 replace HB1 := Aside0.mk (below_then HB1.out HB1.out.size hba)
 clear hba HE
 generalize w1.alloc (Obj.map #[] 0) = w1a at HMA HE1 HB1 ⊢
 generalize w1.heap.size = ma at HMA HLT hmw0 ⊢
 refine (Metric_Weights.calls ((HM.out.below HB1.out).reads HK.out hn) (by rw [HWL.out]; omega)).mono ?_
 rintro e w2 ⟨wv, rfl, hr2, hb2⟩
 obtain ⟨wA, wc, rfl⟩ := Kd.R_slice hr2
 have HMB := Aside0.mk (HMA.out.below hb2)
 have HE2 := Aside0.mk (Kd.R_below HE1.out hb2)
 have HW := Aside0.mk hr2
 have HB2 := Aside0.mk (below_then HB1.out HB1.out.size hb2)
 have hma : ma < w1a.heap.size := HMA.out.lt
 have hpu : w1a.heap.size ≤ w2.heap.size := hb2.size
 clear hr2 hb2 HMA HE1
 go_wp2_with (fail)
 have hbb : Below w2.heap.size w2 (w2.alloc (Obj.cells #[.pointer (some ⟨q, 0, none⟩), .slice eA (hierS n arcs L).edges.length ec, .map (some ma), .slice wA ws.length wc] 100)) := (Below.refl _ _).alloc (Nat.le_refl _) _
 have HX := Aside0.mk (heap_alloc_new w2 (Obj.cells #[.pointer (some ⟨q, 0, none⟩), .slice eA (hierS n arcs L).edges.length ec, .map (some ma), .slice wA ws.length wc] 100))
 replace HMB := Aside0.mk (HMB.out.below hbb)
 replace HE2 := Aside0.mk (Kd.R_below HE2.out hbb)
 replace HW := Aside0.mk (Kd.R_below HW.out hbb)
 replace HB2 := Aside0.mk (below_then HB2.out HB2.out.size hbb)
 clear hbb
 generalize w2.alloc (Obj.cells #[.pointer (some ⟨q, 0, none⟩), .slice eA (hierS n arcs L).edges.length ec, .map (some ma), .slice wA ws.length wc] 100) = w3 at HX HMB HE2 HW HB2 ⊢
 generalize w2.heap.size = pu at HX hpu ⊢
 refine (Metric_Hier.calls ((HM.out.below HB2.out).reads HK.out hn)).mono ?_
 rintro e w3b ⟨rfl, rfl⟩
 go_wp2_with (fail)
 refine (Hier_Graph.calls (HM.out.below HB2.out).hier (by omega)).mono ?_
 rintro e w4 ⟨gv, rfl, hr4, hb4⟩
 obtain ⟨gA, gc, rfl⟩ := Kd.R_slice hr4
 have HG := Aside0.mk hr4
 have hs34 : w3b.heap.size ≤ w4.heap.size := hb4.size
 have hma3 : ma < w3b.heap.size := HMB.out.lt
 have hX3 : pu < w3b.heap.size := hblk_lt HX.out
 replace HX := Aside0.mk (blk_below HX.out hb4)
 replace HMB := Aside0.mk (HMB.out.below hb4)
 replace HE2 := Aside0.mk (Kd.R_below HE2.out hb4)
 replace HW := Aside0.mk (Kd.R_below HW.out hb4)
 replace HB2 := Aside0.mk (below_then HB2.out HB2.out.size hb4)
 clear hr4 hb4
 have hfg := run_field_graph (.int .i64 (n : Int)) (.slice gA arcs.length gc)
 -- what stands under a change of the map's block
 have HGS : Aside0 (∀ W', Bel (fun k => k = ma) w4 W' → Kd.C k58 W' gA arcs.length arcs) := ⟨fun W' hW => (Kd.R_reads' (Kd.R_move (Kd.R_bound HG.out) (w1 := W') (fun k hk => hW.block k hk.2.2.1 (fun hT => by have := hk.2.1; omega)))).2.2⟩
 have HES : Aside0 (∀ W', Bel (fun k => k = ma) w4 W' → Kd.C k58 W' eA (hierS n arcs L).edges.length (hierS n arcs L).edges) := ⟨fun W' hW => (Kd.R_reads' (Kd.R_move (Kd.R_bound (Kd.R_reok (ok := fun k => k < ma) rfl HE2.out HLT.out)) (w1 := W') (fun k hk => hW.block k hk.2.2.1 (fun hT => by have := hk.1; omega)))).2.2⟩
 have HWS : Aside0 (∀ W', Bel (fun k => k = ma) w4 W' → Kd.C (Kd.int .i64) W' wA ws.length ws) := ⟨fun W' hW => (Kd.R_reads' (Kd.R_move (Kd.R_bound HW.out) (w1 := W') (fun k hk => hW.block k hk.2.2.1 (fun hT => by have := hk.2.1; omega)))).2.2⟩
 clear HG HE2 HW HLT HB1
 go_wp2_with (fail)
 clear hfg hmk
 go_loopw [23] (fun i wr => ∃ (k : Nat), i = .int .i64 (k : Int) ∧ k ≤ arcs.length ∧ Aside0 (Bel (fun k => k = ma) w4 wr) ∧ Aside0 (MapIs encP (Value.int .i64) wr ma (amTo arcs ws k))) (fun i _ => arcs.length - (intOf i).toNat)
 case atStart => exact ⟨0, rfl, Nat.zero_le _, ⟨Bel.refl _ _⟩, HMB⟩
 case round =>
  clear HMB
  obtain ⟨k, rfl, hk, HBL, HMR⟩ := hrel
  by_cases hkl : k < arcs.length
  ·obtain ⟨ae, hA2, hx0, hx1⟩ := at_T58 (HGS.out _ HBL.out) (k : Int) (by omega) (by omega)
   obtain ⟨ae2, hA3, hz0, _⟩ := at_T58 (HGS.out _ HBL.out) 0 (by omega) (by omega)
   obtain rfl : ae2 = ae := Option.some.inj (hA3.symm.trans hA2)
   have hsp := spot_of_cell (ad := ae2) (by exact hz0)
   obtain ⟨ab, ao, asb⟩ := ae2
   injection hsp with hz1 hz2 hes
   clear hz1 hz2 hz0 hA3
   subst hes
   simp only [Addr.add_lit, Int.toNat_natCast] at hx0 hx1
   subst hA2
   rw [rd_getD] at hx0 hx1
   obtain ⟨f0, HF0⟩ : ∃ f, Aside0 ((arcs.getD k z58).f0 = f) := ⟨_, ⟨rfl⟩⟩
   obtain ⟨f1, HF1⟩ : ∃ f, Aside0 ((arcs.getD k z58).f1 = f) := ⟨_, ⟨rfl⟩⟩
   rw [HF0.out] at hx0
   rw [HF1.out] at hx1
   have HKY : Aside0 (amKey arcs k = (f0, f1)) := ⟨by unfold amKey; rw [HF0.out, HF1.out]⟩
   have HST : Aside0 (amTo arcs ws (k + 1) = amStep arcs ws (amTo arcs ws k) k) := ⟨rfl⟩
   go_upto_region 6 with (fail)
   have hbk : Below wr.heap.size wr ((wr.alloc (Obj.cells #[.int .i64 f0, .int .i64 f1] 58)).alloc (Obj.cells #[.int .i64 f0, .int .i64 f1] 130)) := ((Below.refl _ _).alloc (Nat.le_refl _) _).alloc (by rw [World.size_alloc]; omega) _
   have hy := heap_alloc_new (wr.alloc (Obj.cells #[.int .i64 f0, .int .i64 f1] 58)) (Obj.cells #[.int .i64 f0, .int .i64 f1] 130)
   rw [World.size_alloc] at hy
   have HY := Aside0.mk hy
   clear hy
   replace HMR := Aside0.mk (HMR.out.below hbk)
   replace HBL := Aside0.mk (HBL.out.below hbk)
   clear hbk hx0 hx1
   generalize (wr.alloc (Obj.cells #[.int .i64 f0, .int .i64 f1] 58)).alloc (Obj.cells #[.int .i64 f0, .int .i64 f1] 130) = w5 at HY HMR HBL ⊢
   generalize wr.heap.size + 1 = by_ at HY ⊢
   have y0 := (blk_cell HY.out 0).trans rfl
   have y1 := (blk_cell HY.out 1).trans rfl
   have HXr := Aside0.mk ((HBL.out.block pu (by omega) (by omega)).trans HX.out)
   have p2 := (blk_cell HXr.out 2).trans rfl
   have hkw : k < ws.length := by rw [HWL.out]; exact hkl
   obtain ⟨wb, wo, hwA, hwk⟩ := cells_all (HWS.out _ HBL.out) k (by rw [HWL.out]; exact hkl)
   subst hwA
   have HWK := Aside0.mk hwk
   clear hwk
   obtain ⟨wi, HWI⟩ : ∃ x, Aside0 (ws.getD k 0 = x) := ⟨_, ⟨rfl⟩⟩
   rw [HWI.out] at HWK
   cases hg : mget (amTo arcs ws k) (f0, f1) with
   | none =>
    have HG0 := Aside0.mk hg
    clear hg
    refine s_ (fun w' => w'.cell? ⟨pu, 2, none⟩ = some (.map (some ma)) ∧ w'.cell? ⟨by_, 0, none⟩ = some (.int .i64 f0) ∧ w'.cell? ⟨by_, 1, none⟩ = some (.int .i64 f1) ∧ MapIs encP (Value.int .i64) w' ma (amTo arcs ws k)) [] ⟨p2, y0, y1, HMR.out⟩ (fun hHeld => ?_)
    have hbd : Below w5.heap.size w5 w5.drew := below_drew (Below.refl _ _)
    replace HY := Aside0.mk (blk_below HY.out hbd)
    replace HXr := Aside0.mk (blk_below HXr.out hbd)
    replace HMR := Aside0.mk (HMR.out.below hbd)
    replace HBL := Aside0.mk (HBL.out.below hbd)
    replace HWK := Aside0.mk (pw_cell_below hbd HWK.out)
    generalize w5.drew = w6 at HY HXr HMR HBL HWK hHeld ⊢
    clear hbd p2 y0 y1
    refine p_ 0 34 ?_
    refine p_ 1 35 ?_
    refine p_ 2 36 ?_
    refine t4_ 3 37 hHeld ?_
    refine t4_ 4 38 hHeld ?_
    refine t4_ 5 39 hHeld ?_ (v := .tuple #[.int .i64 0, .bool false]) (hy := Or.inl ⟨by rfl, by rintro w' ⟨s0, s1, s2, s3⟩; refine yields_lookup pKey Try.underlying98 0 zeroI_ (.tmp 37) (.tmp 38) s3 (f0, f1) ?_ ?_ ?_ ?_ <;> first | rfl | (rw [HG0.out]; rfl)⟩)
    refine p_ 6 33 ?_
    refine p_ 7 40 ?_
    refine p_ 8 41 ?_
    refine p_ 9 7 ?_
    refine p_ 10 8 ?_
    refine d_ ?_
    clear hHeld
    have p3 := (blk_cell HXr.out 3).trans rfl
    go_upto_region 7 with (fail)
    by_cases hw : wi < 0
    ·refine s_ (fun w' => w'.cell? ⟨pu, 3, none⟩ = some (.slice (some ⟨wb, wo, none⟩) ws.length wc) ∧ w'.cell? ⟨wb, wo + k, none⟩ = some (.int .i64 wi)) [] ⟨p3, HWK.out⟩ (fun hHeld => ?_)
     have hbd : Below w6.heap.size w6 w6.drew := below_drew (Below.refl _ _)
     replace HY := Aside0.mk (blk_below HY.out hbd)
     replace HXr := Aside0.mk (blk_below HXr.out hbd)
     replace HMR := Aside0.mk (HMR.out.below hbd)
     replace HBL := Aside0.mk (HBL.out.below hbd)
     generalize w6.drew = w7 at HY HXr HMR HBL hHeld ⊢
     clear hbd p3
     refine p_ 0 42 ?_
     refine p_ 1 43 ?_
     refine p_ 2 44 ?_
     refine t2_ 3 45 hHeld ?_
     refine p_ 4 46 ?_
     refine p_ 5 47 ?_
     refine t2_ 6 48 hHeld ?_
     refine p_ 7 49 (v := .bool false) ?_ (hy := Or.inl ⟨by rfl, by intro w2; go_simp; try omega⟩)
     refine p_ 8 50 ?_
     refine p_ 9 51 (v := undef) ?_ (hy := Or.inr ⟨by rfl, by rfl⟩)
     refine p_ 10 52 (v := undef) ?_ (hy := Or.inr ⟨by rfl, by rfl⟩)
     refine p_ 11 53 (v := undef) ?_ (hy := Or.inr ⟨by rfl, by rfl⟩)
     refine p_ 12 54 (v := undef) ?_ (hy := Or.inr ⟨by rfl, by rfl⟩)
     refine p_ 13 55 (v := undef) ?_ (hy := Or.inr ⟨by rfl, by rfl⟩)
     refine p_ 14 56 (v := undef) ?_ (hy := Or.inr ⟨by rfl, by rfl⟩)
     refine p_ 15 57 (v := undef) ?_ (hy := Or.inr ⟨by rfl, by rfl⟩)
     refine p_ 16 58 (v := undef) ?_ (hy := Or.inr ⟨by rfl, by rfl⟩)
     refine p_ 17 59 (v := undef) ?_ (hy := Or.inr ⟨by rfl, by rfl⟩)
     refine p_ 18 60 (v := undef) ?_ (hy := Or.inr ⟨by rfl, by rfl⟩)
     refine p_ 19 61 (v := undef) ?_ (hy := Or.inr ⟨by rfl, by rfl⟩)
     refine p_ 20 62 (v := undef) ?_ (hy := Or.inr ⟨by rfl, by rfl⟩)
     refine p_ 21 63 (v := undef) ?_ (hy := Or.inr ⟨by rfl, by rfl⟩)
     refine p_ 22 64 (v := undef) ?_ (hy := Or.inr ⟨by rfl, by rfl⟩)
     refine p_ 23 65 (v := undef) ?_ (hy := Or.inr ⟨by rfl, by rfl⟩)
     refine p_ 24 66 (v := undef) ?_ (hy := Or.inr ⟨by rfl, by rfl⟩)
     refine p_ 25 67 (v := undef) ?_ (hy := Or.inr ⟨by rfl, by rfl⟩)
     refine p_ 26 68 (v := undef) ?_ (hy := Or.inr ⟨by rfl, by rfl⟩)
     refine p_ 27 69 (v := undef) ?_ (hy := Or.inr ⟨by rfl, by rfl⟩)
     refine p_ 28 70 ?_
     refine d_ ?_
     clear hHeld
     have HMN : Aside0 (MapIs encP (Value.int .i64) w7 ma (amTo arcs ws (k + 1))) := ⟨by rw [HST.out]; unfold amStep; rw [HWI.out, if_pos hw]; exact HMR.out⟩
     go_wp2_with (fail)
     go_roundw
     case rel => exact ⟨k + 1, by go_num, by omega, HBL, HMN⟩
     case measure => simp [intOf]; omega
    ·refine s_ (fun w' => w'.cell? ⟨pu, 3, none⟩ = some (.slice (some ⟨wb, wo, none⟩) ws.length wc) ∧ w'.cell? ⟨wb, wo + k, none⟩ = some (.int .i64 wi)) [] ⟨p3, HWK.out⟩ (fun hHeld => ?_)
     have hbd : Below w6.heap.size w6 w6.drew := below_drew (Below.refl _ _)
     replace HY := Aside0.mk (blk_below HY.out hbd)
     replace HXr := Aside0.mk (blk_below HXr.out hbd)
     replace HMR := Aside0.mk (HMR.out.below hbd)
     replace HBL := Aside0.mk (HBL.out.below hbd)
     generalize w6.drew = w7 at HY HXr HMR HBL hHeld ⊢
     clear hbd p3
     refine p_ 0 42 ?_
     refine p_ 1 43 ?_
     refine p_ 2 44 ?_
     refine t2_ 3 45 hHeld ?_
     refine p_ 4 46 ?_
     refine p_ 5 47 ?_
     refine t2_ 6 48 hHeld ?_
     refine p_ 7 49 (v := .bool true) ?_ (hy := Or.inl ⟨by rfl, by intro w2; go_simp; try omega⟩)
     refine p_ 8 50 ?_
     refine p_ 9 51 ?_
     refine p_ 10 52 ?_
     refine p_ 11 53 ?_
     refine p_ 12 54 (v := undef) ?_ (hy := Or.inr ⟨by rfl, by rfl⟩)
     refine p_ 13 55 (v := undef) ?_ (hy := Or.inr ⟨by rfl, by rfl⟩)
     refine p_ 14 56 (v := undef) ?_ (hy := Or.inr ⟨by rfl, by rfl⟩)
     refine p_ 15 57 (v := undef) ?_ (hy := Or.inr ⟨by rfl, by rfl⟩)
     refine p_ 16 58 (v := undef) ?_ (hy := Or.inr ⟨by rfl, by rfl⟩)
     refine p_ 17 59 (v := undef) ?_ (hy := Or.inr ⟨by rfl, by rfl⟩)
     refine p_ 18 60 (v := undef) ?_ (hy := Or.inr ⟨by rfl, by rfl⟩)
     refine p_ 19 61 (v := undef) ?_ (hy := Or.inr ⟨by rfl, by rfl⟩)
     refine p_ 20 62 (v := undef) ?_ (hy := Or.inr ⟨by rfl, by rfl⟩)
     refine p_ 21 63 (v := undef) ?_ (hy := Or.inr ⟨by rfl, by rfl⟩)
     refine p_ 22 64 (v := undef) ?_ (hy := Or.inr ⟨by rfl, by rfl⟩)
     refine p_ 23 65 (v := undef) ?_ (hy := Or.inr ⟨by rfl, by rfl⟩)
     refine p_ 24 66 (v := undef) ?_ (hy := Or.inr ⟨by rfl, by rfl⟩)
     refine p_ 25 67 (v := undef) ?_ (hy := Or.inr ⟨by rfl, by rfl⟩)
     refine p_ 26 68 (v := undef) ?_ (hy := Or.inr ⟨by rfl, by rfl⟩)
     refine p_ 27 69 ?_
     refine p_ 28 70 ?_
     refine d_ ?_
     clear hHeld
     go_upto_region 8 with (fail)
     have p2 := (blk_cell HXr.out 2).trans rfl
     have y0 := (blk_cell HY.out 0).trans rfl
     have y1 := (blk_cell HY.out 1).trans rfl
     refine s_ (fun w' => w'.cell? ⟨pu, 2, none⟩ = some (.map (some ma)) ∧ w'.cell? ⟨by_, 0, none⟩ = some (.int .i64 f0) ∧ w'.cell? ⟨by_, 1, none⟩ = some (.int .i64 f1)) [6] ⟨p2, y0, y1⟩ (fun hHeld => ?_)
     have hbd : Below w7.heap.size w7 w7.drew := below_drew (Below.refl _ _)
     replace HMR := Aside0.mk (HMR.out.below hbd)
     replace HBL := Aside0.mk (HBL.out.below hbd)
     generalize w7.drew = w8 at HMR HBL hHeld ⊢
     clear hbd p2 y0 y1
     refine p_ 0 71 ?_
     refine p_ 1 72 ?_
     refine p_ 2 73 ?_
     refine t3_ 3 74 hHeld ?_
     refine t3_ 4 75 hHeld ?_
     refine p_ 5 76 ?_
     refine l_ 6 (fun K hK => ?_)
     refine step_mapUpdate (encE := Value.int .i64) pKey Try.underlying98 rfl rfl _ _ _ rfl HMR.out (f0, f1) (k : Int) rfl rfl rfl (fun w9 HM9 HG9 => ?_)
     refine hK.out _ _ ?_
     clear hK K
     have HBN := Aside0.mk (HBL.out.grown HG9.out (fun k hk => .inl (Option.some.inj hk).symm))
     refine d_ ?_
     clear hHeld
     have HMN : Aside0 (MapIs encP (Value.int .i64) w9 ma (amTo arcs ws (k + 1))) := ⟨by rw [HST.out]; unfold amStep; rw [HWI.out, if_neg hw, HKY.out, HG0.out]; dsimp only; exact HM9.out⟩
     go_wp2_with (fail)
     go_roundw
     case rel => exact ⟨k + 1, by go_num, by omega, HBN, HMN⟩
     case measure => simp [intOf]; omega
   | some oldv =>
    obtain ⟨old, hold, hold2, _, _⟩ := (HAM.out k).1 _ _ hg
    subst hold2
    have HG0 := Aside0.mk hg
    clear hg
    refine s_ (fun w' => w'.cell? ⟨pu, 2, none⟩ = some (.map (some ma)) ∧ w'.cell? ⟨by_, 0, none⟩ = some (.int .i64 f0) ∧ w'.cell? ⟨by_, 1, none⟩ = some (.int .i64 f1) ∧ MapIs encP (Value.int .i64) w' ma (amTo arcs ws k)) [] ⟨p2, y0, y1, HMR.out⟩ (fun hHeld => ?_)
    have hbd : Below w5.heap.size w5 w5.drew := below_drew (Below.refl _ _)
    replace HY := Aside0.mk (blk_below HY.out hbd)
    replace HXr := Aside0.mk (blk_below HXr.out hbd)
    replace HMR := Aside0.mk (HMR.out.below hbd)
    replace HBL := Aside0.mk (HBL.out.below hbd)
    replace HWK := Aside0.mk (pw_cell_below hbd HWK.out)
    generalize w5.drew = w6 at HY HXr HMR HBL HWK hHeld ⊢
    clear hbd p2 y0 y1
    refine p_ 0 34 ?_
    refine p_ 1 35 ?_
    refine p_ 2 36 ?_
    refine t4_ 3 37 hHeld ?_
    refine t4_ 4 38 hHeld ?_
    refine t4_ 5 39 hHeld ?_ (v := .tuple #[.int .i64 (old : Int), .bool true]) (hy := Or.inl ⟨by rfl, by rintro w' ⟨s0, s1, s2, s3⟩; refine yields_lookup pKey Try.underlying98 0 zeroI_ (.tmp 37) (.tmp 38) s3 (f0, f1) ?_ ?_ ?_ ?_ <;> first | rfl | (rw [HG0.out]; rfl)⟩)
    refine p_ 6 33 ?_
    refine p_ 7 40 ?_
    refine p_ 8 41 ?_
    refine p_ 9 7 ?_
    refine p_ 10 8 ?_
    refine d_ ?_
    clear hHeld
    have p3 := (blk_cell HXr.out 3).trans rfl
    go_upto_region 7 with (fail)
    by_cases hw : wi < 0
    ·refine s_ (fun w' => w'.cell? ⟨pu, 3, none⟩ = some (.slice (some ⟨wb, wo, none⟩) ws.length wc) ∧ w'.cell? ⟨wb, wo + k, none⟩ = some (.int .i64 wi)) [] ⟨p3, HWK.out⟩ (fun hHeld => ?_)
     have hbd : Below w6.heap.size w6 w6.drew := below_drew (Below.refl _ _)
     replace HY := Aside0.mk (blk_below HY.out hbd)
     replace HXr := Aside0.mk (blk_below HXr.out hbd)
     replace HMR := Aside0.mk (HMR.out.below hbd)
     replace HBL := Aside0.mk (HBL.out.below hbd)
     generalize w6.drew = w7 at HY HXr HMR HBL hHeld ⊢
     clear hbd p3
     refine p_ 0 42 ?_
     refine p_ 1 43 ?_
     refine p_ 2 44 ?_
     refine t2_ 3 45 hHeld ?_
     refine p_ 4 46 ?_
     refine p_ 5 47 ?_
     refine t2_ 6 48 hHeld ?_
     refine p_ 7 49 (v := .bool false) ?_ (hy := Or.inl ⟨by rfl, by intro w2; go_simp; try omega⟩)
     refine p_ 8 50 ?_
     refine p_ 9 51 (v := undef) ?_ (hy := Or.inr ⟨by rfl, by rfl⟩)
     refine p_ 10 52 (v := undef) ?_ (hy := Or.inr ⟨by rfl, by rfl⟩)
     refine p_ 11 53 (v := undef) ?_ (hy := Or.inr ⟨by rfl, by rfl⟩)
     refine p_ 12 54 (v := undef) ?_ (hy := Or.inr ⟨by rfl, by rfl⟩)
     refine p_ 13 55 (v := undef) ?_ (hy := Or.inr ⟨by rfl, by rfl⟩)
     refine p_ 14 56 (v := undef) ?_ (hy := Or.inr ⟨by rfl, by rfl⟩)
     refine p_ 15 57 (v := undef) ?_ (hy := Or.inr ⟨by rfl, by rfl⟩)
     refine p_ 16 58 (v := undef) ?_ (hy := Or.inr ⟨by rfl, by rfl⟩)
     refine p_ 17 59 (v := undef) ?_ (hy := Or.inr ⟨by rfl, by rfl⟩)
     refine p_ 18 60 (v := undef) ?_ (hy := Or.inr ⟨by rfl, by rfl⟩)
     refine p_ 19 61 (v := undef) ?_ (hy := Or.inr ⟨by rfl, by rfl⟩)
     refine p_ 20 62 (v := undef) ?_ (hy := Or.inr ⟨by rfl, by rfl⟩)
     refine p_ 21 63 (v := undef) ?_ (hy := Or.inr ⟨by rfl, by rfl⟩)
     refine p_ 22 64 (v := undef) ?_ (hy := Or.inr ⟨by rfl, by rfl⟩)
     refine p_ 23 65 (v := undef) ?_ (hy := Or.inr ⟨by rfl, by rfl⟩)
     refine p_ 24 66 (v := undef) ?_ (hy := Or.inr ⟨by rfl, by rfl⟩)
     refine p_ 25 67 (v := undef) ?_ (hy := Or.inr ⟨by rfl, by rfl⟩)
     refine p_ 26 68 (v := undef) ?_ (hy := Or.inr ⟨by rfl, by rfl⟩)
     refine p_ 27 69 (v := undef) ?_ (hy := Or.inr ⟨by rfl, by rfl⟩)
     refine p_ 28 70 ?_
     refine d_ ?_
     clear hHeld
     have HMN : Aside0 (MapIs encP (Value.int .i64) w7 ma (amTo arcs ws (k + 1))) := ⟨by rw [HST.out]; unfold amStep; rw [HWI.out, if_pos hw]; exact HMR.out⟩
     go_wp2_with (fail)
     go_roundw
     case rel => exact ⟨k + 1, by go_num, by omega, HBL, HMN⟩
     case measure => simp [intOf]; omega
    ·obtain ⟨wb2, wo2, hwA2, hwk2⟩ := cells_all (HWS.out _ HBL.out) old (by rw [HWL.out]; omega)
     injection hwA2 with hwA2
     injection hwA2 with e1 e2 e3
     subst e1 e2
     have HWO := Aside0.mk hwk2
     clear hwk2 e3
     have how : old < ws.length := by rw [HWL.out]; omega
     obtain ⟨wold, HWOI⟩ : ∃ x, Aside0 (ws.getD old 0 = x) := ⟨_, ⟨rfl⟩⟩
     rw [HWOI.out] at HWO
     by_cases hlt : wi < wold
     ·refine s_ (fun w' => w'.cell? ⟨pu, 3, none⟩ = some (.slice (some ⟨wb, wo, none⟩) ws.length wc) ∧ w'.cell? ⟨wb, wo + k, none⟩ = some (.int .i64 wi) ∧ w'.cell? ⟨wb, wo + old, none⟩ = some (.int .i64 wold)) [] ⟨p3, HWK.out, HWO.out⟩ (fun hHeld => ?_)
      have hbd : Below w6.heap.size w6 w6.drew := below_drew (Below.refl _ _)
      replace HY := Aside0.mk (blk_below HY.out hbd)
      replace HXr := Aside0.mk (blk_below HXr.out hbd)
      replace HMR := Aside0.mk (HMR.out.below hbd)
      replace HBL := Aside0.mk (HBL.out.below hbd)
      generalize w6.drew = w7 at HY HXr HMR HBL hHeld ⊢
      clear hbd p3
      refine p_ 0 42 ?_
      refine p_ 1 43 ?_
      refine p_ 2 44 ?_
      refine t3_ 3 45 hHeld ?_
      refine p_ 4 46 ?_
      refine p_ 5 47 ?_
      refine t3_ 6 48 hHeld ?_
      refine p_ 7 49 (v := .bool true) ?_ (hy := Or.inl ⟨by rfl, by intro w2; go_simp; try omega⟩)
      refine p_ 8 50 ?_
      refine p_ 9 51 ?_
      refine p_ 10 52 ?_
      refine p_ 11 53 ?_
      refine p_ 12 54 ?_
      refine p_ 13 55 ?_
      refine p_ 14 56 ?_
      refine t3_ 15 57 hHeld ?_
      refine p_ 16 58 ?_
      refine p_ 17 59 ?_
      refine t3_ 18 60 hHeld ?_
      refine p_ 19 61 ?_
      refine p_ 20 62 ?_
      refine p_ 21 63 ?_
      refine t3_ 22 64 hHeld ?_
      refine p_ 23 65 ?_
      refine p_ 24 66 ?_
      refine t3_ 25 67 hHeld ?_
      refine p_ 26 68 (v := .bool true) ?_ (hy := Or.inl ⟨by rfl, by intro w2; go_simp; try omega⟩)
      refine p_ 27 69 ?_

      refine p_ 28 70 ?_
      refine d_ ?_
      clear hHeld
      go_upto_region 8 with (fail)
      have p2 := (blk_cell HXr.out 2).trans rfl
      have y0 := (blk_cell HY.out 0).trans rfl
      have y1 := (blk_cell HY.out 1).trans rfl
      refine s_ (fun w' => w'.cell? ⟨pu, 2, none⟩ = some (.map (some ma)) ∧ w'.cell? ⟨by_, 0, none⟩ = some (.int .i64 f0) ∧ w'.cell? ⟨by_, 1, none⟩ = some (.int .i64 f1)) [6] ⟨p2, y0, y1⟩ (fun hHeld => ?_)
      have hbd : Below w7.heap.size w7 w7.drew := below_drew (Below.refl _ _)
      replace HMR := Aside0.mk (HMR.out.below hbd)
      replace HBL := Aside0.mk (HBL.out.below hbd)
      generalize w7.drew = w8 at HMR HBL hHeld ⊢
      clear hbd p2 y0 y1
      refine p_ 0 71 ?_
      refine p_ 1 72 ?_
      refine p_ 2 73 ?_
      refine t3_ 3 74 hHeld ?_
      refine t3_ 4 75 hHeld ?_
      refine p_ 5 76 ?_
      refine l_ 6 (fun K hK => ?_)
      refine step_mapUpdate (encE := Value.int .i64) pKey Try.underlying98 rfl rfl _ _ _ rfl HMR.out (f0, f1) (k : Int) rfl rfl rfl (fun w9 HM9 HG9 => ?_)
      refine hK.out _ _ ?_
      clear hK K
      have HBN := Aside0.mk (HBL.out.grown HG9.out (fun k hk => .inl (Option.some.inj hk).symm))
      refine d_ ?_
      clear hHeld
      have HMN : Aside0 (MapIs encP (Value.int .i64) w9 ma (amTo arcs ws (k + 1))) := ⟨by rw [HST.out]; unfold amStep; rw [HWI.out, if_neg hw, HKY.out, HG0.out]; dsimp only; rw [Int.toNat_natCast, HWOI.out, if_pos hlt]; exact HM9.out⟩
      go_wp2_with (fail)
      go_roundw
      case rel => exact ⟨k + 1, by go_num, by omega, HBN, HMN⟩
      case measure => simp [intOf]; omega
     ·refine s_ (fun w' => w'.cell? ⟨pu, 3, none⟩ = some (.slice (some ⟨wb, wo, none⟩) ws.length wc) ∧ w'.cell? ⟨wb, wo + k, none⟩ = some (.int .i64 wi) ∧ w'.cell? ⟨wb, wo + old, none⟩ = some (.int .i64 wold)) [] ⟨p3, HWK.out, HWO.out⟩ (fun hHeld => ?_)
      have hbd : Below w6.heap.size w6 w6.drew := below_drew (Below.refl _ _)
      replace HY := Aside0.mk (blk_below HY.out hbd)
      replace HXr := Aside0.mk (blk_below HXr.out hbd)
      replace HMR := Aside0.mk (HMR.out.below hbd)
      replace HBL := Aside0.mk (HBL.out.below hbd)
      generalize w6.drew = w7 at HY HXr HMR HBL hHeld ⊢
      clear hbd p3
      refine p_ 0 42 ?_
      refine p_ 1 43 ?_
      refine p_ 2 44 ?_
      refine t3_ 3 45 hHeld ?_
      refine p_ 4 46 ?_
      refine p_ 5 47 ?_
      refine t3_ 6 48 hHeld ?_
      refine p_ 7 49 (v := .bool true) ?_ (hy := Or.inl ⟨by rfl, by intro w2; go_simp; try omega⟩)
      refine p_ 8 50 ?_
      refine p_ 9 51 ?_
      refine p_ 10 52 ?_
      refine p_ 11 53 ?_
      refine p_ 12 54 ?_
      refine p_ 13 55 ?_
      refine p_ 14 56 ?_
      refine t3_ 15 57 hHeld ?_
      refine p_ 16 58 ?_
      refine p_ 17 59 ?_
      refine t3_ 18 60 hHeld ?_
      refine p_ 19 61 ?_
      refine p_ 20 62 ?_
      refine p_ 21 63 ?_
      refine t3_ 22 64 hHeld ?_
      refine p_ 23 65 ?_
      refine p_ 24 66 ?_
      refine t3_ 25 67 hHeld ?_
      refine p_ 26 68 (v := .bool false) ?_ (hy := Or.inl ⟨by rfl, by intro w2; go_simp; try omega⟩)
      refine p_ 27 69 ?_

      refine p_ 28 70 ?_
      refine d_ ?_
      clear hHeld
      have HMN : Aside0 (MapIs encP (Value.int .i64) w7 ma (amTo arcs ws (k + 1))) := ⟨by rw [HST.out]; unfold amStep; rw [HWI.out, if_neg hw, HKY.out, HG0.out]; dsimp only; rw [Int.toNat_natCast, HWOI.out, if_neg hlt]; exact HMR.out⟩
      go_wp2_with (fail)
      go_roundw
      case rel => exact ⟨k + 1, by go_num, by omega, HBL, HMN⟩
      case measure => simp [intOf]; omega
  ·obtain rfl : k = arcs.length := by omega
   have HXr := Aside0.mk ((HBL.out.block pu (by omega) (by omega)).trans HX.out)
   have hBf : Below w0.heap.size w0 wr := bCh HB2.out (HBL.out.out HB2.out.size (fun k hk => by omega))
   go_wp2_with (fail)
   go_ret
   exact ⟨pu, rfl, hBf, eA, ec, ma, wA, wc, HXr.out, HES.out _ HBL.out, HMR.out, HWS.out _ HBL.out, HM.out.below hBf⟩
end Go.Proofs.Ytfnophaiamkmpaa.Print
