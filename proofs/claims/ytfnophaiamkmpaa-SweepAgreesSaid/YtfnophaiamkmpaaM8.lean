/- Several texts of this claim in one: HKElim, HOCheck. -/
import Derived.Test.YtfnophaiamkmpaaM7
import Derived.Test.YtfnophaiamkmpaaPrint0
import Derived.Test.YtfnophaiamkmpaaM0
import Derived.LoopTactic
namespace Go.Proofs.Ytfnophaiamkmpaa.Print
open Go.RowKit Go.Proofs.YtfnophaiamkmpaaW.PrintWords Go.Proofs.YtfnophaiamkmpaaW.PrintLast Go.Proofs.YtfnophaiamkmpaaW.PrintMore
set_option linter.unusedVariables false
set_option linter.unusedSimpArgs false
theorem hputB {B : Nat} {w w1 : World} (h : Below B w w1) (a : Addr) (v : Value) (ha : B ≤ a.block) : Below B w (w1.setCell a v) :=
 ⟨h.os, h.tape, h.output, by rw [setCell_size]; exact h.size, fun k hk => (Below.heap_setCell w1 a v k (by omega)).trans (h.block k hk)⟩
theorem below_more {B : Nat} {w W w2 : World} (h : Below B w W) (hb : B ≤ w.heap.size) (k : Below W.heap.size W w2) : Below B w w2 := below_then h (Nat.le_trans hb h.size) k
set_option maxHeartbeats 6400000 in
set_option maxRecDepth 100000 in
theorem Hier_eliminate.calls {w : World} {base p : Nat} {o : Tags} {n : Nat} {gv ov rv ev : Value} {mb Bu cu Bd cd : Nat} {vu vd : Nat → Value} {arcs : List S58} {L R : List Int} {S : HSt} (h : HierIs w base p o n gv ov rv ev mb Bu cu Bd cd vu vd S) (hred : RIs w base o gv ov rv arcs L R)
  (hn : n ≤ 1000) (hal : arcs.length ≤ 1000000) (hchk : chk (n : Int) arcs = 0) (hRl : R.length = n) (hR : ∀ v, v < n → 0 ≤ R.getD v 0 ∧ R.getD v 0 < (n : Int)) (hLl : L.length = n) (hL : ∀ v, v < n → 0 ≤ L.getD v 0 ∧ L.getD v 0 < (n : Int)) (hS : SGood n 0 S) (hob : ∀ k, k < base → o k = (0, 0)) :
  Calls Try.prog 59 #[.pointer (some ⟨p, 0, none⟩)] w fun e w' => e = .returned (.tuple #[]) ∧ Below base w w' ∧
   ∃ Bh o' ev' vu' vd' vh H, EIs w' base p Bh o' n gv ov rv ev' mb Bu cu Bd cd vu' vd' vh arcs L R H (elimS n L R (nbRows n arcs) S) := by
 obtain ⟨gA, gc, rfl, hgc, hgC⟩ := Kd.R_reads hred.arc
 obtain ⟨o2, ho21, ho22, hE1⟩ := EIs.start h hred
 have HOB : Aside0 (∀ k, k < base → o2 k = (0, 0)) := ⟨fun k hk => (ho22 k (Nat.lt_of_lt_of_le hk h.base_le)).trans (hob k hk)⟩
 have HR := Aside0.mk hR
 have HL := Aside0.mk hL
 have HS := Aside0.mk hS
 have HCK := Aside0.mk hchk
 have HGC := Aside0.mk hgC
 have HE1 := Aside0.mk hE1
 have HO21 := Aside0.mk ho21
 have hc00 := (blk_cell h.blk 0).trans rfl
 have hbase := h.base_le
 have hmk := run_nilRows n (by omega)
 obtain ⟨kn, hkn⟩ := graph_Neighbours.ev (n : Int) arcs (by omega)
 have HKN : Aside0 (graph_Neighbours.f kn (n : Int) arcs = some (nbRows n arcs)) := ⟨(hkn kn (Nat.le_refl _)).trans (by
  unfold neighS
  rw [if_pos hchk, Int.toNat_natCast])⟩
 have hnl : (nbRows n arcs).length = n := nbRows_length n arcs
 have HNG : Aside0 (∀ v, (∀ x ∈ (nbRows n arcs).getD v [], 0 ≤ x ∧ x < (n : Int)) ∧ ((nbRows n arcs).getD v []).length ≤ n) := ⟨nb_good hchk⟩
 clear hred h hR hL hS hchk hgC hE1 ho21 ho22 hkn hob
 generalize hnear : nbRows n arcs = near at HKN hnl HNG
 go_enter Try.func59, Try.ntmps59
 go_upto_region 1 with (fail)
 have hB1 : Below w.heap.size w (w.alloc (.cells (nilRows n) 25 (0, 0))) := (Below.refl _ _).alloc (Nat.le_refl _) _
 have HB1 : Aside0 (Below base w (w.alloc (.cells (nilRows n) 25 (0, 0)))) := ⟨(Below.refl _ _).alloc hbase _⟩
 have HGC1 := Aside0.mk (Kd.C_below HGC.out hB1)
 have hs1 : (w.alloc (.cells (nilRows n) 25 (0, 0))).heap.size = w.heap.size + 1 := by show (w.heap.push _).size = _; rw [Array.size_push]
 rw [← hs1] at HO21
 clear hB1 hc00 hmk HGC hs1
 generalize w.alloc (.cells (nilRows n) 25 (0, 0)) = w1 at HE1 HB1 HGC1 HO21 ⊢
 have hc0 := (blk_cell HE1.out.hier.blk 0).trans rfl
 have hc1 := (blk_cell HE1.out.hier.blk 1).trans rfl
 generalize w.heap.size = Bh at HE1 ⊢
 go_wp2_with (fail)
 refine (graph_Neighbours.calls kn (n : Int) gA gc arcs near _ HGC1.out hgc HKN.out).mono ?_
 rintro e w2 ⟨v0, rfl, hns, hb2⟩
 obtain ⟨An, cn, rfl, hcn, _⟩ := Kd.R_reads (Kd.S_R hns)
 have HNS := Aside0.mk hns
 have HE2 := Aside0.mk (HE1.out.below hb2)
 have HB2 := Aside0.mk (below_more HB1.out hbase hb2)
 have HBZ : Aside0 (base ≤ w2.heap.size) := ⟨Nat.le_trans hbase (Nat.le_trans HB1.out.size hb2.size)⟩
 have HOT : Aside0 (∀ k, w1.heap.size ≤ k → k < w2.heap.size → (o2 k).1 = 10) := ⟨fun k hk _ => by rw [HO21.out k hk]⟩
 clear hns hb2 HE1 HB1 HO21 HKN hc0 hc1 HGC1
 generalize w1.heap.size = b1 at HNS HOT
 have hcn2 : near.length ≤ cn := hcn
 go_upto_region 2 with (fail)
 go_loopw [23] (fun i wr => ∃ (v : Nat) (o : Tags) (vh : Nat → Value), i = .int .i64 v ∧ v ≤ n ∧ Aside0 (∀ k, k < w2.heap.size → o k = o2 k) ∧ Aside0 (Agree b1 w2.heap.size w2 wr) ∧ Aside0 (EIs wr base p Bh o n (.slice gA arcs.length gc) ov rv ev mb Bu cu Bd cd vu vd vh arcs L R (h1upto R near n v) S) ∧ Aside0 (Below base w wr) ∧ Aside0 (w2.heap.size ≤ wr.heap.size) ∧ Aside0 (HGood n (v * n) (h1upto R near n v))) (fun i _ => n - (intOf i).toNat)
 case atStart => exact ⟨0, o2, _, rfl, Nat.zero_le _, ⟨fun _ _ => rfl⟩, ⟨fun _ _ _ => rfl⟩, HE2, HB2, ⟨Nat.le_refl _⟩, ⟨(HGood.nils n).le (by omega)⟩⟩
 case round =>
  clear HE2 HB2
  obtain ⟨v, o, vh, rfl, hv, HO, HN, HE, HB, HZ, HG⟩ := hrel
  by_cases hlt : v < n
  ·obtain ⟨ad, Ai, xc, rfl, hxc, HX⟩ := near_row HNS.out (v := v) (by omega)
   have HXG := Aside0.mk (HNG.out v)
   have hcr := (HX wr HN.out).1
   have HX := Aside0.mk HX
   have HSU : Aside0 (h1upto R near n (v + 1) = h1row R v (h1upto R near n v) (near.getD v [])) := ⟨rfl⟩
   generalize near.getD v [] = x at HX HXG hcr hxc HSU
   generalize h1upto R near n v = H0 at HE HG HSU
   obtain ⟨br, orr, cr, hrv, hra0⟩ := own_cell HE.out.red.rnk (i := v) (by omega)
   obtain ⟨a, ha⟩ := Int.eq_ofNat_of_zero_le (HR.out v hlt).1
   have han : a < n := by have := (HR.out v hlt).2; omega
   clear hra0
   have hxl : x.length ≤ 1000 := by have := HXG.out.2; omega
   go_upto_region 5 with (fail)
   clear hcr
   go_loopw [30] (fun i wq => ∃ (j : Nat) (o : Tags) (vh : Nat → Value), i = .int .i64 j ∧ j ≤ x.length ∧ Aside0 (∀ k, k < w2.heap.size → o k = o2 k) ∧ Aside0 (Agree b1 w2.heap.size w2 wq) ∧ Aside0 (EIs wq base p Bh o n (.slice gA arcs.length gc) ov rv ev mb Bu cu Bd cd vu vd vh arcs L R ((x.take j).foldl (h1step R v) H0) S) ∧ Aside0 (Below base w wq) ∧ Aside0 (w2.heap.size ≤ wq.heap.size) ∧ Aside0 (HGood n (v * n + j) ((x.take j).foldl (h1step R v) H0))) (fun i _ => x.length - (intOf i).toNat)
   case atStart => exact ⟨0, o, vh, rfl, Nat.zero_le _, HO, HN, ⟨by rw [List.take_zero]; exact HE.out⟩, HB, HZ, ⟨by rw [List.take_zero]; exact HG.out⟩⟩
   case round =>
    clear HO HN HE HB HZ HG
    obtain ⟨j, o, vh, rfl, hj, HO, HN, HE, HB, HZ, HG⟩ := hrel
    by_cases hjl : j < x.length
    ·have hXr := (HX.out wr HN.out).2
     rcases cells_of_C hXr with ⟨h0, _⟩ | ⟨_, bx, ox, rfl, hxe⟩
     ·omega
     have hcx := hxe j hjl
     have hu0 := HXG.out.1 (x.getD j 0) (by rw [List.getD_eq_getElem?_getD, List.getElem?_eq_getElem hjl]; exact List.getElem_mem hjl)
     have HFS := Aside0.mk (foldl_take_succ (h1step R v) H0 hjl)
     clear hXr hxe
     generalize x.getD j 0 = u' at hcx hu0 HFS
     obtain ⟨u, rfl⟩ := Int.eq_ofNat_of_zero_le hu0.1
     have hun : u < n := by omega
     generalize (x.take j).foldl (h1step R v) H0 = Hj at HE HG HFS
     have HST : Aside0 (h1step R v Hj (u : Int) = if R.getD u 0 > R.getD v 0 then hpush Hj (R.getD v 0).toNat (R.getD u 0) else Hj) := ⟨by unfold h1step; rw [Int.toNat_natCast]⟩
     have HGS := Aside0.mk (h1step_good HG.out HR.out hlt hu0)
     obtain ⟨_, _, _, hrv2, hra⟩ := own_cell HE.out.red.rnk (i := v) (by omega)
     obtain ⟨_, _, _, hrv3, hru⟩ := own_cell HE.out.red.rnk (i := u) (by omega)
     rw [hrv] at hrv2 hrv3
     injection hrv2 with e1 _ _
     injection e1 with e1
     injection e1 with e1 e2 _
     subst e1 e2
     injection hrv3 with e1 _ _
     injection e1 with e1
     injection e1 with e1 e2 _
     subst e1 e2
     rw [ha] at hra HST
     have HRV := Aside0.mk hrv
     have hc3 := (blk_cell HE.out.hier.blk 3).trans rfl
     rw [hrv, hRl] at hc3
     obtain ⟨b, hb⟩ := Int.eq_ofNat_of_zero_le (HR.out u hun).1
     have hbn : b < n := by have := (HR.out u hun).2; omega
     rw [hb] at hru HST
     clear hu0
     go_upto_region 7 with (fail)
     have hcx2 := hcx
     clear hcx
     refine s_ (fun w' => w'.cell? ⟨p, 3, none⟩ = some (.slice (some ⟨br, orr, none⟩) n cr) ∧ w'.cell? ⟨br, orr + v, none⟩ = some (.int .i64 (a : Int)) ∧ w'.cell? ⟨br, orr + u, none⟩ = some (.int .i64 (b : Int))) [] ⟨hc3, hra, hru⟩ (fun hHeld => ?_)
     refine p_ 0 34 ?_
     refine p_ 1 35 ?_
     refine p_ 2 36 ?_
     refine t3_ 3 37 hHeld ?_
     refine p_ 4 38 ?_
     refine p_ 5 39 ?_
     refine t3_ 6 40 hHeld ?_
     refine p_ 7 41 ?_
     refine p_ 8 42 ?_
     refine p_ 9 43 ?_
     refine t3_ 10 44 hHeld ?_
     refine p_ 11 45 ?_
     refine p_ 12 46 ?_
     refine t3_ 13 47 hHeld ?_
     refine p_ 14 48 ?_
     refine d_ ?_
     clear hHeld
     have HE5 := Aside0.mk HE.out.drew
     have HB5 := Aside0.mk (below_drew HB.out)
     have HN5 : Aside0 (Agree b1 w2.heap.size w2 wr.drew) := HN
     have HZ5 : Aside0 (w2.heap.size ≤ wr.drew.heap.size) := HZ
     clear hc3 hra hru HE HB HN HZ hcx2
     generalize wr.drew = wd at HE5 HB5 HN5 HZ5 ⊢
     by_cases hgt : (b : Int) > (a : Int)
     ·rw [if_pos hgt, Int.toNat_natCast] at HST
      have hab : a < b := by omega
      go_upto_region 8 with (fail)
      obtain ⟨ra, HRA⟩ : ∃ x, Aside0 (Hj.getD a [] = x) := ⟨_, ⟨rfl⟩⟩
      have hral : ra.length ≤ 1000000000 := by
       have h1 := HG.out.cap a
       rw [HRA.out] at h1
       have h2 : v * n ≤ 1000 * 1000 := Nat.mul_le_mul (by omega) hn
       omega
      have hc3 := (blk_cell HE5.out.hier.blk 3).trans rfl
      rw [HRV.out, hRl] at hc3
      obtain ⟨_, _, _, hrv2, hra⟩ := own_cell HE5.out.red.rnk (i := v) (by omega)
      obtain ⟨_, _, _, hrv3, hru⟩ := own_cell HE5.out.red.rnk (i := u) (by omega)
      rw [HRV.out] at hrv2 hrv3
      injection hrv2 with e1 _ _
      injection e1 with e1
      injection e1 with e1 e2 _
      subst e1 e2
      injection hrv3 with e1 _ _
      injection e1 with e1
      injection e1 with e1 e2 _
      subst e1 e2
      rw [ha] at hra
      rw [hb] at hru
      have hca := HE5.out.high.cell a (by rw [HG.out.len]; exact han)
      refine s_ (fun w' => w'.cell? ⟨p, 3, none⟩ = some (.slice (some ⟨br, orr, none⟩) n cr) ∧ w'.cell? ⟨br, orr + v, none⟩ = some (.int .i64 (a : Int)) ∧ w'.cell? ⟨br, orr + u, none⟩ = some (.int .i64 (b : Int)) ∧ w'.cell? ⟨Bh, a, none⟩ = some (vh a)) [28] ⟨hc3, hra, hru, hca⟩ (fun hHeld => ?_)
      have HD := Aside0.mk HE5.out.drew
      have HBD := Aside0.mk (below_drew HB5.out)
      have HND : Aside0 (Agree b1 w2.heap.size w2 wd.drew) := HN5
      have HZD : Aside0 (w2.heap.size ≤ wd.drew.heap.size) := HZ5
      generalize wd.drew = we at HD HBD HND HZD hHeld ⊢
      refine p_ 0 49 ?_
      refine p_ 1 50 ?_
      refine p_ 2 51 ?_
      refine p_ 3 52 ?_
      refine t4_ 4 53 hHeld ?_
      refine p_ 5 54 ?_
      refine p_ 6 55 ?_
      refine t4_ 7 56 hHeld ?_
      refine p_ 8 57 ?_
      refine p_ 9 58 ?_
      refine p_ 10 59 ?_
      refine p_ 11 60 ?_
      refine t4_ 12 61 hHeld ?_
      refine p_ 13 62 ?_
      refine p_ 14 63 ?_
      refine t4_ 15 64 hHeld ?_
      refine p_ 16 65 ?_
      refine t4_ 17 66 hHeld ?_
      refine p_ 18 67 ?_
      refine p_ 19 68 ?_
      refine p_ 20 69 ?_
      refine t4_ 21 70 hHeld ?_
      refine p_ 22 71 ?_
      refine p_ 23 72 ?_
      refine t4_ 24 73 hHeld ?_
      obtain ⟨q0, q1, q2, q3⟩ := hHeld
      refine o_ 25 74 (fun K hK => ?_)
      refine value_ (w1 := ?_) (v := ?_) (by rfl) rfl ?_ ?_; rotate_left 2; (·go_simp; constructor; (·rfl); (·rfl))
      refine hK.out _ _ ⟨(World.cell?_alloc_lt _ _ _ (World.block_lt_of_cell? _ _ q0)).trans q0, (World.cell?_alloc_lt _ _ _ (World.block_lt_of_cell? _ _ q1)).trans q1, (World.cell?_alloc_lt _ _ _ (World.block_lt_of_cell? _ _ q2)).trans q2, (World.cell?_alloc_lt _ _ _ (World.block_lt_of_cell? _ _ q3)).trans q3⟩ (fun hHeld => ?_)
      clear hK K hHeld
      refine n_ 74 ?_
      refine o_ 26 75 (fun K hK => ?_)
      refine Kd.R_append_step (Kd.int .i64) (w0 := we) base (by rfl) (.tmp 66) (.tmp 74) 25 3 (.int .i64 0) 8 rfl Try.underlying25 info3 rfl (by decide) (by decide) (vh a) ra ((b : Int)) [.int .i64 ((b : Int))] (fun _ => True) (fun _ => False) rfl rfl ?aP (fun _ hk => hk.elim) ?aF ?aO ?aB ?aS ?aL ?_
      (case aP => exact rfl)
      (case aF => exact (fun _ _ => trivial))
      (case aO => rw [← HRA.out]; exact Kd.R_mono (HD.out.high.row a (by rw [HG.out.len]; omega)) (fun _ _ => trivial))
      (case aB => exact Below.refl _ _)
      (case aS => exact HD.out.hier.base_le)
      (case aL => omega)
      intro v6 w6 ho6 hb6 hg6 hat6
      obtain ⟨A6, c6, he6⟩ := Kd.R_slice ho6
      rw [show (ra ++ [((b : Int))]).length = ra.length + 1 by simp] at he6
      subst he6
      have hr6 := HD.out.high.row a (by rw [HG.out.len]; omega)
      obtain ⟨o6, vh6, ho61, hm6, hs6, hE6⟩ := HD.out.put (i := a) (by rw [HG.out.len]; omega) ho6 hg6 hat6
      have hT6 : ∀ k, (vh a).ownBlock = some k → o k = (1, a + 1) := hr6.1
      have hS0 := cell_grown hg6 q0 (fun e => by have h1 := hT6 p e.symm; rw [HD.out.hier.ptag] at h1; simp at h1)
      have hS1 := cell_grown hg6 q1 (fun e => by have h1 := hT6 br e.symm; have h2 := HD.out.red.rnk.1; rw [HRV.out] at h2; rw [h2 br rfl] at h1; simp at h1)
      have hS2 := cell_grown hg6 q2 (fun e => by have h1 := hT6 br e.symm; have h2 := HD.out.red.rnk.1; rw [HRV.out] at h2; rw [h2 br rfl] at h1; simp at h1)
      have hS3 := cell_grown hg6 q3 (fun e => by have h1 := hT6 Bh e.symm; rw [HD.out.high.own] at h1; simp at h1)
      have hfz : w6.frozen? ⟨Bh, a, none⟩ = false := (World.frozen?_of_block (hg6.block Bh HD.out.high.top (fun e => by have h1 := hT6 Bh e.symm; rw [HD.out.high.own] at h1; simp at h1))).trans (HD.out.high.frz a)
      have HE7 := Aside0.mk hE6
      have HN7 : Aside0 (Agree b1 w2.heap.size w2 (w6.setCell ⟨Bh, a, none⟩ (.slice A6 (ra.length + 1) c6))) := ⟨fun k hk1 hk2 => (hm6 k (by have := HZD.out; omega) (by rw [HO.out k hk2, HOT.out k hk1 hk2]; decide)).trans (HND.out k hk1 hk2)⟩
      have HZ7 : Aside0 (w2.heap.size ≤ (w6.setCell ⟨Bh, a, none⟩ (.slice A6 (ra.length + 1) c6)).heap.size) := ⟨Nat.le_trans HZD.out hs6⟩
      have HO7 : Aside0 (∀ k, k < w2.heap.size → o6 k = o2 k) := ⟨fun k hk => (ho61 k (by have := HZD.out; omega)).trans (HO.out k hk)⟩
      have HB7 : Aside0 (Below base w (w6.setCell ⟨Bh, a, none⟩ (.slice A6 (ra.length + 1) c6))) := ⟨hputB (HBD.out.grown hg6 HD.out.hier.base_le (fun k hk => ((Kd.R_bound hr6).1 k hk).2.1)) _ _ HD.out.high.lo⟩
      clear ho6 hb6 hg6 hat6 ho61 hm6 hs6 hE6 hr6 hT6
      refine hK.out _ _ ⟨hS0, hS1, hS2, hS3⟩ (fun hHeld => ?_)
      clear hK K
      refine n_ 75 ?_
      refine p_ 27 76 ?_
      have hSL := hHeld.2.2.2
      clear hHeld hS0 hS1 hS2 hS3 q0 q1 q2 q3
      refine l_ 28 (fun K hK => ?_)
      refine skip_ (w1 := ?_) (by rfl) rfl ?_ ?_
      rotate_left; (·go_simp; rfl)
      refine hK.out _ _ ?_
      clear hK K hSL hfz
      refine d_ ?_
      clear hc3 hra hru hca HD HBD HND HZD
      generalize w6.setCell ⟨Bh, a, none⟩ (.slice A6 (ra.length + 1) c6) = w7 at HE7 HN7 HZ7 HB7 ⊢
      go_wp2
      go_roundw
      case rel => exact ⟨j + 1, o6, vh6, by go_num, by omega, HO7, HN7, ⟨by rw [HFS.out, HST.out]; unfold hpush; rw [HRA.out]; exact HE7.out⟩, HB7, HZ7, ⟨by rw [HFS.out]; exact HGS.out⟩⟩
      case measure => simp [intOf]; omega
     ·rw [if_neg hgt] at HST
      have hab : ¬ a < b := by omega
      go_wp2
      go_roundw
      case rel => exact ⟨j + 1, o, vh, by go_num, by omega, HO, HN5, ⟨by rw [HFS.out, HST.out]; exact HE5.out⟩, HB5, HZ5, ⟨by rw [HFS.out]; exact HGS.out⟩⟩
      case measure => simp [intOf]; omega
    ·have hje : j = x.length := by omega
     subst hje
     rw [List.take_length] at HE HG
     go_wp2
     go_roundw
     case rel =>
      refine ⟨v + 1, o, vh, by go_num, by omega, HO, HN, ⟨by rw [HSU.out]; exact HE.out⟩, HB, HZ, ⟨by rw [HSU.out]; exact HG.out.le (by have := HXG.out.2; rw [Nat.add_mul]; omega)⟩⟩
     case measure => simp [intOf]; omega
  ·have hve : n = v := by omega
   subst hve
   have HOB1 : Aside0 (∀ k, k < base → o k = (0, 0)) := ⟨fun k hk => (HO.out k (by have h1 := HE.out.hier.base_le; have h2 := HBZ.out; omega)).trans (HOB.out k hk)⟩
   have HEL : Aside0 (elimS n L R near S = (h2upto L (h1upto R near n n, S) n).2) := ⟨rfl⟩
   clear HO HN HZ HNS HOT
   have HE := HE
   generalize h1upto R near n n = H1 at HE HG HEL
   obtain ⟨st, HSTT⟩ : ∃ st, Aside0 (st = (H1, S)) := ⟨_, ⟨rfl⟩⟩
   rw [← HSTT.out] at HEL
   go_upto_region 12 with (fail)
   go_loopw [81] (fun i wr => ∃ (r : Nat) (o : Tags) (ev : Value) (vu vd vh : Nat → Value), i = .int .i64 r ∧ r ≤ n ∧ Aside0 (∀ k, k < base → o k = (0, 0)) ∧ Aside0 (EIs wr base p Bh o n (.slice gA arcs.length gc) ov rv ev mb Bu cu Bd cd vu vd vh arcs L R (h2upto L st r).1 (h2upto L st r).2) ∧ Aside0 (Below base w wr) ∧ Aside0 (HGood n (n * n + r * n) (h2upto L st r).1) ∧ Aside0 (SGood n (r * n) (h2upto L st r).2)) (fun i _ => n - (intOf i).toNat)
   case atStart =>
    refine ⟨0, o, ev, vu, vd, vh, rfl, Nat.zero_le _, HOB1, ⟨?_⟩, HB, ⟨?_⟩, ⟨?_⟩⟩
    ·show EIs _ base p Bh o n _ ov rv ev mb Bu cu Bd cd vu vd vh arcs L R st.1 st.2
     rw [HSTT.out]
     exact HE.out
    ·show HGood n (n * n + 0 * n) st.1
     rw [HSTT.out]
     exact HG.out.le (by omega)
    ·show SGood n (0 * n) st.2
     rw [HSTT.out]
     exact HS.out.le (by omega)
   case round =>
    clear HOB1 HE HB HG HSTT
    obtain ⟨r, o, ev, vu, vd, vh, rfl, hr, HOB1, HE, HB, HG, HSG⟩ := hrel
    by_cases hrn : r < n
    ·obtain ⟨o3, ho31, ho32, hE3⟩ := HE.out.fresh
     have HE3 := Aside0.mk hE3
     have HO31 := Aside0.mk ho31
     have HOB3 : Aside0 (∀ k, k < base → o3 k = (0, 0)) := ⟨fun k hk => (ho32 k (Nat.lt_of_lt_of_le hk HE.out.hier.base_le)).trans (HOB1.out k hk)⟩
     have hbr := HE.out.hier.base_le
     have hlenH := HG.out.len
     obtain ⟨Ar, cr, hvr, hcr, hrC⟩ := Kd.R_reads (HE.out.high.row r (by omega))
     have hrcell := HE.out.high.cell r (by omega)
     rw [hvr] at hrcell
     have HRC := Aside0.mk hrC
     have hrow : ((h2upto L st r).1.getD r []).length < 17592186044416 := by
      have h1 := HG.out.cap r
      have h2 : n * n ≤ 1000 * 1000 := Nat.mul_le_mul hn hn
      have h3 : r * n ≤ 1000 * 1000 := Nat.mul_le_mul (by omega) hn
      omega
     have HRG := Aside0.mk (HG.out.rng r)
     have HSU : Aside0 (h2upto L st (r + 1) = h2row L r (setOf ((h2upto L st r).1.getD r [])) (h2upto L st r) (setOf ((h2upto L st r).1.getD r [])).length) := ⟨rfl⟩
     clear ho31 ho32 hE3 HE HOB1 hrC hvr
     generalize h2upto L st r = st' at HE3 HG HSG HRC HRG HSU hrow hrcell hcr hlenH
     generalize hrowe : st'.1.getD r [] = row at HRC HRG HSU hrow hrcell hcr
     go_wp2_with (fail)
     refine (sets_Of.calls Ar cr row (setOf row) _ HRC.out hcr (by unfold sets_Of.f; rw [if_pos hrow])).mono ?_
     rintro e w4 ⟨v0, rfl, hl, hb4⟩
     obtain ⟨Al, cl, rfl, hclc, _⟩ := Kd.R_reads hl
     have HLW := Aside0.mk (own_W hl)
     have HLB : Aside0 (∀ b off, Al = some ⟨b, off, none⟩ → wr.heap.size ≤ b ∧ b < w4.heap.size) := ⟨fun b off e => by
      have h1 := (Kd.R_bound hl).1 b (by rw [e]; rfl)
      exact ⟨h1.2.1, h1.2.2.1⟩⟩
     have HE4 := Aside0.mk (HE3.out.below hb4)
     have HB4 := Aside0.mk (below_more HB.out hbase hb4)
     have HLR : Aside0 (∀ x ∈ setOf row, 0 ≤ x ∧ x < (n : Int)) := ⟨fun x hx => HRG.out x (mem_setOf.1 hx)⟩
     have hll : (setOf row).length ≤ n := inc_len_n (inc_setOf row) HLR.out
     have HO4 : Aside0 (∀ k, wr.heap.size ≤ k → k < w4.heap.size → (o3 k).1 = 10) := ⟨fun k hk _ => by rw [HO31.out k hk]⟩
     have hbz : base ≤ w4.heap.size := Nat.le_trans hbr hb4.size
     clear hl hb4 HE3 HB HRC HRG HO31 hrcell hcr hrow hrowe
     generalize setOf row = l at HLW HLR HSU hll hclc ⊢
     generalize wr.heap.size = b3 at HLW HO4 HLB
     clear hbr
     go_upto_region 16 with (fail)
     go_loopw [91] (fun i wq => ∃ (q : Nat) (o : Tags) (ev : Value) (vu vd vh : Nat → Value), i = .int .i64 q ∧ q ≤ l.length ∧ Aside0 (∀ k, k < w4.heap.size → o k = o3 k) ∧ Aside0 (Agree b3 w4.heap.size w4 wq) ∧ Aside0 (EIs wq base p Bh o n (.slice gA arcs.length gc) ov rv ev mb Bu cu Bd cd vu vd vh arcs L R (h2row L r l st' q).1 (h2row L r l st' q).2) ∧ Aside0 (Below base w wq) ∧ Aside0 (w4.heap.size ≤ wq.heap.size) ∧ Aside0 (HGood n (n * n + r * n + q) (h2row L r l st' q).1) ∧ Aside0 (SGood n (r * n + q) (h2row L r l st' q).2)) (fun i _ => l.length - (intOf i).toNat)
     case atStart => exact ⟨0, o3, ev, vu, vd, vh, rfl, Nat.zero_le _, ⟨fun _ _ => rfl⟩, ⟨fun _ _ _ => rfl⟩, HE4, HB4, ⟨Nat.le_refl _⟩, HG, HSG⟩
     case round =>
      clear HE4 HB4 HG HSG
      obtain ⟨q, o, ev, vu, vd, vh, rfl, hq, HO, HN, HE, HB, HZ, HG, HSG⟩ := hrel
      by_cases hql : q < l.length
      ·rcases cells_of_C (HLW.out wr HN.out) with ⟨h0, _⟩ | ⟨_, bx, ox, rfl, hxe⟩
       ·omega
       have hcq := hxe q hql
       have hcl0 := hxe 0 (by omega)
       rw [Nat.add_zero] at hcl0
       have HOX : Aside0 ((o bx).1 = 10) := ⟨by
        have h1 := HLB.out bx ox rfl
        rw [HO.out bx h1.2]
        exact HO4.out bx h1.1 h1.2⟩
       have hs0 := HLR.out (l.getD q 0) (by rw [List.getD_eq_getElem?_getD, List.getElem?_eq_getElem hql]; exact List.getElem_mem hql)
       have hl00 := HLR.out (l.getD 0 0) (by rw [List.getD_eq_getElem?_getD, List.getElem?_eq_getElem (show 0 < l.length by omega)]; exact List.getElem_mem _)
       have HSP : Aside0 (h2row L r l st' (q + 1) = (if 0 < q then hpush (h2row L r l st' q).1 (l.getD 0 0).toNat (l.getD q 0) else (h2row L r l st' q).1, hadd (h2row L r l st' q).2 (L.getD r 0).toNat (L.getD (l.getD q 0).toNat 0).toNat)) := ⟨rfl⟩
       have HGS := Aside0.mk (h2step_good (L := L) (r := r) HG.out HSG.out HLR.out hql)
       have HGS2 : Aside0 (HGood n (n * n + r * n + q + 1) (h2row L r l st' (q + 1)).1 ∧ SGood n (r * n + q + 1) (h2row L r l st' (q + 1)).2) := HGS
       clear HGS hxe
       generalize hsn9 : h2row L r l st' (q + 1) = sn at HSP HGS2
       have HSN := Aside0.mk hsn9
       clear hsn9
       generalize h2row L r l st' q = sq at HE HG HSG HSP
       obtain ⟨s, hs⟩ := Int.eq_ofNat_of_zero_le hs0.1
       obtain ⟨c, hc⟩ := Int.eq_ofNat_of_zero_le hl00.1
       rw [hs] at hcq hs0 HSP
       rw [hc] at hcl0 hl00 HSP
       have hsn : s < n := by omega
       have hcn3 : c < n := by omega
       simp only [Int.toNat_natCast] at HSP
       clear hs hc hs0 hl00
       obtain ⟨bo, oo, co, hov, _⟩ := own_cell HE.out.red.ord (i := r) (by omega)
       obtain ⟨x, hx⟩ := Int.eq_ofNat_of_zero_le (HL.out r hrn).1
       obtain ⟨y, hy⟩ := Int.eq_ofNat_of_zero_le (HL.out s hsn).1
       have hxn : x < n := by have := (HL.out r hrn).2; omega
       have hyn : y < n := by have := (HL.out s hsn).2; omega
       rw [hx, hy] at HSP
       simp only [Int.toNat_natCast] at HSP
       have hlx : sq.2.edges.length ≤ 1000000000 ∧ (sq.2.ups.getD x []).length ≤ 1000000000 ∧ (sq.2.downs.getD y []).length ≤ 1000000000 := by
        have h1 := HSG.out.len
        have h2 := HSG.out.capu x
        have h3 := HSG.out.capd y
        have h4 : r * n ≤ 1000 * 1000 := Nat.mul_le_mul (by omega) hn
        omega
       have HOV := Aside0.mk hov
       clear hov
       by_cases hq0 : 0 < q
       ·rw [if_pos hq0] at HSP
        go_upto_region 19 with (fail)
        obtain ⟨ra, HRA⟩ : ∃ z, Aside0 (sq.1.getD c [] = z) := ⟨_, ⟨rfl⟩⟩
        have hral : ra.length ≤ 1000000000 := by
         have h1 := HG.out.cap c
         rw [HRA.out] at h1
         have h2 : n * n ≤ 1000 * 1000 := Nat.mul_le_mul hn hn
         have h3 : r * n ≤ 1000 * 1000 := Nat.mul_le_mul (by omega) hn
         omega
        have hca := HE.out.high.cell c (by rw [HG.out.len]; exact hcn3)
        clear hcq
        refine s_ (fun w' => w'.cell? ⟨bx, ox, none⟩ = some (.int .i64 (c : Int)) ∧ w'.cell? ⟨Bh, c, none⟩ = some (vh c)) [14] ⟨hcl0, hca⟩ (fun hHeld => ?_)
        have HD := Aside0.mk HE.out.drew
        have HBD := Aside0.mk (below_drew HB.out)
        have HND : Aside0 (Agree b3 w4.heap.size w4 wr.drew) := HN
        have HZD : Aside0 (w4.heap.size ≤ wr.drew.heap.size) := HZ
        generalize wr.drew = we at HD HBD HND HZD hHeld ⊢
        refine p_ 0 98 ?_
        refine p_ 1 99 ?_
        refine p_ 2 100 ?_
        refine t2_ 3 101 hHeld ?_
        refine p_ 4 102 ?_
        refine p_ 5 103 ?_
        refine p_ 6 104 ?_
        refine t2_ 7 105 hHeld ?_
        refine p_ 8 106 ?_
        refine t2_ 9 107 hHeld ?_
        refine p_ 10 108 ?_
        obtain ⟨q0, q1⟩ := hHeld
        refine o_ 11 109 (fun K hK => ?_)
        refine value_ (w1 := ?_) (v := ?_) (by rfl) rfl ?_ ?_; rotate_left 2; (·go_simp; constructor; (·rfl); (·rfl))
        refine hK.out _ _ ⟨(World.cell?_alloc_lt _ _ _ (World.block_lt_of_cell? _ _ q0)).trans q0, (World.cell?_alloc_lt _ _ _ (World.block_lt_of_cell? _ _ q1)).trans q1⟩ (fun hHeld => ?_)
        clear hK K hHeld
        refine n_ 109 ?_
        refine o_ 12 110 (fun K hK => ?_)
        refine Kd.R_append_step (Kd.int .i64) (w0 := we) base (by rfl) (.tmp 107) (.tmp 109) 25 3 (.int .i64 0) 8 rfl Try.underlying25 info3 rfl (by decide) (by decide) (vh c) ra ((s : Int)) [.int .i64 ((s : Int))] (fun _ => True) (fun _ => False) rfl rfl ?aP (fun _ hk => hk.elim) ?aF ?aO ?aB ?aS ?aL ?_
        (case aP => exact rfl)
        (case aF => exact (fun _ _ => trivial))
        (case aO => rw [← HRA.out]; exact Kd.R_mono (HD.out.high.row c (by rw [HG.out.len]; omega)) (fun _ _ => trivial))
        (case aB => exact Below.refl _ _)
        (case aS => exact HD.out.hier.base_le)
        (case aL => omega)
        intro v6 w6 ho6 hb6 hg6 hat6
        obtain ⟨A6, c6, he6⟩ := Kd.R_slice ho6
        rw [show (ra ++ [((s : Int))]).length = ra.length + 1 by simp] at he6
        subst he6
        have hr6 := HD.out.high.row c (by rw [HG.out.len]; omega)
        obtain ⟨o6, vh6, ho61, hm6, hs6, hE6⟩ := HD.out.put (i := c) (by rw [HG.out.len]; omega) ho6 hg6 hat6
        have hT6 : ∀ k, (vh c).ownBlock = some k → o k = (1, c + 1) := hr6.1
        have hS0 := cell_grown hg6 q0 (fun e => by have h1 := hT6 bx e.symm; have h2 := HOX.out; rw [h1] at h2; simp at h2)
        have hS1 := cell_grown hg6 q1 (fun e => by have h1 := hT6 Bh e.symm; rw [HD.out.high.own] at h1; simp at h1)
        have hfz : w6.frozen? ⟨Bh, c, none⟩ = false := (World.frozen?_of_block (hg6.block Bh HD.out.high.top (fun e => by have h1 := hT6 Bh e.symm; rw [HD.out.high.own] at h1; simp at h1))).trans (HD.out.high.frz c)
        have HE7 := Aside0.mk hE6
        have HN7 : Aside0 (Agree b3 w4.heap.size w4 (w6.setCell ⟨Bh, c, none⟩ (.slice A6 (ra.length + 1) c6))) := ⟨fun k hk1 hk2 => (hm6 k (by have := HZD.out; omega) (by rw [HO.out k hk2, HO4.out k hk1 hk2]; decide)).trans (HND.out k hk1 hk2)⟩
        have HZ7 : Aside0 (w4.heap.size ≤ (w6.setCell ⟨Bh, c, none⟩ (.slice A6 (ra.length + 1) c6)).heap.size) := ⟨Nat.le_trans HZD.out hs6⟩
        have HO7 : Aside0 (∀ k, k < w4.heap.size → o6 k = o3 k) := ⟨fun k hk => (ho61 k (by have := HZD.out; omega)).trans (HO.out k hk)⟩
        have HB7 : Aside0 (Below base w (w6.setCell ⟨Bh, c, none⟩ (.slice A6 (ra.length + 1) c6))) := ⟨hputB (HBD.out.grown hg6 HD.out.hier.base_le (fun k hk => ((Kd.R_bound hr6).1 k hk).2.1)) _ _ HD.out.high.lo⟩
        clear ho6 hb6 hg6 hat6 ho61 hm6 hs6 hE6 hr6 hT6
        refine hK.out _ _ ⟨hS0, hS1⟩ (fun hHeld => ?_)
        clear hK K
        refine n_ 110 ?_
        refine p_ 13 111 ?_
        have hSL := hHeld.2
        clear hHeld hS0 hS1 q0 q1
        refine l_ 14 (fun K hK => ?_)
        refine skip_ (w1 := ?_) (by rfl) rfl ?_ ?_
        rotate_left; (·go_simp; rfl)
        refine hK.out _ _ ?_
        clear hK K hSL hfz
        refine d_ ?_
        clear hcl0 hca HD HBD HND HZD
        generalize w6.setCell ⟨Bh, c, none⟩ (.slice A6 (ra.length + 1) c6) = w7 at HE7 HN7 HZ7 HB7 ⊢
        go_upto_region 20 with (fail)
        obtain ⟨vh, hvh⟩ : ∃ z, z = vh6 := ⟨_, rfl⟩
        subst hvh
        obtain ⟨oa, hoa⟩ : ∃ z, z = o6 := ⟨_, rfl⟩
        subst hoa
        have HEA := HE7
        have HBA := HB7
        have HNA := HN7
        have HZA := HZ7
        have HOA := HO7
        clear HE7 HB7 HN7 HZ7 HO7
        generalize w7 = wa at HEA HBA HNA HZA ⊢
        generalize hHA : sq.1.set c (ra ++ [(s : Int)]) = HA at HEA
        have HSPA : Aside0 (sn = (HA, hadd sq.2 x y)) := ⟨by rw [HSP.out, ← hHA, ← HRA.out]; rfl⟩
        have hcp := (blk_cell HEA.out.hier.blk 2).trans rfl
        rw [HOV.out, hLl] at hcp
        obtain ⟨_, _, _, hrv2, hcx⟩ := own_cell HEA.out.red.ord (i := r) (by omega)
        obtain ⟨_, _, _, hrv3, hcy⟩ := own_cell HEA.out.red.ord (i := s) (by omega)
        rw [HOV.out] at hrv2 hrv3
        injection hrv2 with e1 _ _
        injection e1 with e1
        injection e1 with e1 e2 _
        subst e1 e2
        injection hrv3 with e1 _ _
        injection e1 with e1
        injection e1 with e1 e2 _
        subst e1 e2
        rw [hx] at hcx
        rw [hy] at hcy
        refine s_ (fun w' => w'.cell? ⟨p, 2, none⟩ = some (.slice (some ⟨bo, oo, none⟩) n co) ∧ w'.cell? ⟨bo, oo + r, none⟩ = some (.int .i64 (x : Int)) ∧ w'.cell? ⟨bo, oo + s, none⟩ = some (.int .i64 (y : Int))) [15] ⟨hcp, hcx, hcy⟩ (fun hHeld => ?_)
        have HD := Aside0.mk HEA.out.drew
        have HBD := Aside0.mk (below_drew HBA.out)
        have HND : Aside0 (Agree b3 w4.heap.size w4 wa.drew) := HNA
        have HZD : Aside0 (w4.heap.size ≤ wa.drew.heap.size) := HZA
        clear HEA HBA HNA HZA
        generalize wa.drew = we at HD HBD HND HZD hHeld ⊢
        refine p_ 0 112 ?_
        refine p_ 1 113 ?_
        refine p_ 2 114 ?_
        refine p_ 3 115 ?_
        refine t3_ 4 116 hHeld ?_
        refine p_ 5 117 ?_
        refine p_ 6 118 ?_
        refine t3_ 7 119 hHeld ?_
        refine p_ 8 120 ?_
        refine p_ 9 121 ?_
        refine p_ 10 122 ?_
        refine t3_ 11 123 hHeld ?_
        refine p_ 12 124 ?_
        refine p_ 13 125 ?_
        refine t3_ 14 126 hHeld ?_
        clear hHeld hcp hcx hcy
        refine ld_ 15 127 (fun K hK => ?_)
        refine goes_ Try.func86 (by kernel_rfl) rfl #[.pointer (some ⟨p, 0, none⟩), .int .i64 (x : Int), .int .i64 (y : Int)] (by rfl) rfl rfl byL ?_
        refine (Hier_add.calls x y HD.out.hier hxn hyn hlx.1 hlx.2.1 hlx.2.2).mono ?_
        rintro e w9 ⟨rfl, hbel, o9, ev9, vu9, vd9, ho9, hh9⟩
        refine ⟨_, rfl, ?_⟩
        refine hK.out _ _ ?_
        clear hK K
        refine n_ 127 ?_
        refine d_ ?_
        have HE9 := Aside0.mk (HD.out.added hbel ho9 hh9)
        have HO9 : Aside0 (∀ k, k < w4.heap.size → o9 k = o3 k) := ⟨fun k hk => (ho9 k (by have := HZD.out; omega)).trans (HOA.out k hk)⟩
        have HN9 : Aside0 (Agree b3 w4.heap.size w4 w9) := ⟨fun k hk1 hk2 => (hbel.block k (by have := HZD.out; omega) (fun hT => by unfold HT at hT; rw [HOA.out k hk2, HO4.out k hk1 hk2] at hT; omega)).trans (HND.out k hk1 hk2)⟩
        have HZ9 : Aside0 (w4.heap.size ≤ w9.heap.size) := ⟨Nat.le_trans HZD.out hbel.size⟩
        have HB9 : Aside0 (Below base w w9) := ⟨⟨hbel.os.trans HBD.out.os, hbel.tape.trans HBD.out.tape, hbel.output.trans HBD.out.output, Nat.le_trans HBD.out.size hbel.size, fun k hk => (hbel.block k (by have := HZD.out; omega) (fun hT => by unfold HT at hT; rw [HOA.out k (by omega), HOB3.out k hk] at hT; omega)).trans (HBD.out.block k hk)⟩⟩
        have HSA1 : HA = sn.1 := by rw [HSPA.out]
        have HSA2 : hadd sq.2 x y = sn.2 := by rw [HSPA.out]
        rw [HSA1, HSA2] at HE9
        clear hbel ho9 hh9 HD HBD HND HZD
        go_wp2
        go_roundw
        case rel => exact ⟨q + 1, o9, ev9, vu9, vd9, _, by go_num, by omega, HO9, HN9, ⟨by rw [HSN.out]; exact HE9.out⟩, HB9, HZ9, ⟨by rw [HSN.out]; exact HGS2.out.1⟩, ⟨by rw [HSN.out]; exact HGS2.out.2⟩⟩
        case measure => simp [intOf]; omega
       ·rw [if_neg hq0] at HSP
        clear hcl0
        go_upto_region 20 with (fail)
        have HEA := HE
        have HBA := HB
        have HNA := HN
        have HZA := HZ
        have HOA := HO
        clear HE HB HN HZ HO
        obtain ⟨oa, hoa⟩ : ∃ z, z = o := ⟨_, rfl⟩
        subst hoa
        generalize wr = wa at HEA HBA HNA HZA ⊢
        obtain ⟨HA, hHA⟩ : ∃ z, z = sq.1 := ⟨_, rfl⟩
        rw [← hHA] at HEA
        have HSPA : Aside0 (sn = (HA, hadd sq.2 x y)) := ⟨by rw [HSP.out, hHA]⟩
        have hcp := (blk_cell HEA.out.hier.blk 2).trans rfl
        rw [HOV.out, hLl] at hcp
        obtain ⟨_, _, _, hrv2, hcx⟩ := own_cell HEA.out.red.ord (i := r) (by omega)
        obtain ⟨_, _, _, hrv3, hcy⟩ := own_cell HEA.out.red.ord (i := s) (by omega)
        rw [HOV.out] at hrv2 hrv3
        injection hrv2 with e1 _ _
        injection e1 with e1
        injection e1 with e1 e2 _
        subst e1 e2
        injection hrv3 with e1 _ _
        injection e1 with e1
        injection e1 with e1 e2 _
        subst e1 e2
        rw [hx] at hcx
        rw [hy] at hcy
        refine s_ (fun w' => w'.cell? ⟨p, 2, none⟩ = some (.slice (some ⟨bo, oo, none⟩) n co) ∧ w'.cell? ⟨bo, oo + r, none⟩ = some (.int .i64 (x : Int)) ∧ w'.cell? ⟨bo, oo + s, none⟩ = some (.int .i64 (y : Int))) [15] ⟨hcp, hcx, hcy⟩ (fun hHeld => ?_)
        have HD := Aside0.mk HEA.out.drew
        have HBD := Aside0.mk (below_drew HBA.out)
        have HND : Aside0 (Agree b3 w4.heap.size w4 wa.drew) := HNA
        have HZD : Aside0 (w4.heap.size ≤ wa.drew.heap.size) := HZA
        clear HEA HBA HNA HZA
        generalize wa.drew = we at HD HBD HND HZD hHeld ⊢
        refine p_ 0 112 ?_
        refine p_ 1 113 ?_
        refine p_ 2 114 ?_
        refine p_ 3 115 ?_
        refine t3_ 4 116 hHeld ?_
        refine p_ 5 117 ?_
        refine p_ 6 118 ?_
        refine t3_ 7 119 hHeld ?_
        refine p_ 8 120 ?_
        refine p_ 9 121 ?_
        refine p_ 10 122 ?_
        refine t3_ 11 123 hHeld ?_
        refine p_ 12 124 ?_
        refine p_ 13 125 ?_
        refine t3_ 14 126 hHeld ?_
        clear hHeld hcp hcx hcy
        refine ld_ 15 127 (fun K hK => ?_)
        refine goes_ Try.func86 (by kernel_rfl) rfl #[.pointer (some ⟨p, 0, none⟩), .int .i64 (x : Int), .int .i64 (y : Int)] (by rfl) rfl rfl byL ?_
        refine (Hier_add.calls x y HD.out.hier hxn hyn hlx.1 hlx.2.1 hlx.2.2).mono ?_
        rintro e w9 ⟨rfl, hbel, o9, ev9, vu9, vd9, ho9, hh9⟩
        refine ⟨_, rfl, ?_⟩
        refine hK.out _ _ ?_
        clear hK K
        refine n_ 127 ?_
        refine d_ ?_
        have HE9 := Aside0.mk (HD.out.added hbel ho9 hh9)
        have HO9 : Aside0 (∀ k, k < w4.heap.size → o9 k = o3 k) := ⟨fun k hk => (ho9 k (by have := HZD.out; omega)).trans (HOA.out k hk)⟩
        have HN9 : Aside0 (Agree b3 w4.heap.size w4 w9) := ⟨fun k hk1 hk2 => (hbel.block k (by have := HZD.out; omega) (fun hT => by unfold HT at hT; rw [HOA.out k hk2, HO4.out k hk1 hk2] at hT; omega)).trans (HND.out k hk1 hk2)⟩
        have HZ9 : Aside0 (w4.heap.size ≤ w9.heap.size) := ⟨Nat.le_trans HZD.out hbel.size⟩
        have HB9 : Aside0 (Below base w w9) := ⟨⟨hbel.os.trans HBD.out.os, hbel.tape.trans HBD.out.tape, hbel.output.trans HBD.out.output, Nat.le_trans HBD.out.size hbel.size, fun k hk => (hbel.block k (by have := HZD.out; omega) (fun hT => by unfold HT at hT; rw [HOA.out k (by omega), HOB3.out k hk] at hT; omega)).trans (HBD.out.block k hk)⟩⟩
        have HSA1 : HA = sn.1 := by rw [HSPA.out]
        have HSA2 : hadd sq.2 x y = sn.2 := by rw [HSPA.out]
        rw [HSA1, HSA2] at HE9
        clear hbel ho9 hh9 HD HBD HND HZD
        go_wp2
        go_roundw
        case rel => exact ⟨q + 1, o9, ev9, vu9, vd9, _, by go_num, by omega, HO9, HN9, ⟨by rw [HSN.out]; exact HE9.out⟩, HB9, HZ9, ⟨by rw [HSN.out]; exact HGS2.out.1⟩, ⟨by rw [HSN.out]; exact HGS2.out.2⟩⟩
        case measure => simp [intOf]; omega
      ·have hje : q = l.length := by omega
       subst hje
       have HOBN : Aside0 (∀ k, k < base → o k = (0, 0)) := ⟨fun k hk => (HO.out k (by omega)).trans (HOB3.out k hk)⟩
       go_wp2
       go_roundw
       case rel =>
        refine ⟨r + 1, o, ev, vu, vd, vh, by go_num, by omega, HOBN, ⟨by rw [HSU.out]; exact HE.out⟩, HB, ⟨by rw [HSU.out]; exact HG.out.le (by rw [Nat.add_mul]; omega)⟩, ⟨by rw [HSU.out]; exact HSG.out.le (by rw [Nat.add_mul]; omega)⟩⟩
       case measure => simp [intOf]; omega
    ·have hre : n = r := by omega
     subst hre
     go_wp2
     go_end0
     exact ⟨rfl, HB.out, Bh, o, ev, vu, vd, vh, _, by rw [HEL.out]; exact HE.out⟩
def ordGo (n len : Int) : List Int → List Int → Int
 | _, [] => if len < n then 12 else 0
 | seen, v :: r => if v < 0 then 2 else if v ≥ n then 2 else if v ∈ seen then 7 else ordGo n len (v :: seen) r
def order_Check.f (a0 : Int) (l1 : List Int) : Option Int := some (ordGo a0 l1.length [] l1)
def Seen (m : List (Int × Bool)) (seen : List Int) : Prop := ∀ v, (mget m v).getD false = decide (v ∈ seen)
theorem Seen.put {m : List (Int × Bool)} {seen : List Int} (h : Seen m seen) (v : Int) : Seen (mput m v true) (v :: seen) := by
 intro u
 rw [mget_mput]
 by_cases e : v = u
 ·simp [e]
 ·have e' : ¬ u = v := fun x => e x.symm
  rw [if_neg e, h u]
  simp [e']
theorem zeroBool_ (w : World) : (zeroValue 4).run Try.prog w = .ok (Value.bool false) w := by kernel_rfl
theorem oKey : KeyKind Try.prog 3 (Value.int .i64) := intKey Try.underlying3
set_option maxHeartbeats 1600000 in
set_option maxRecDepth 100000 in
theorem order_Check.calls (a0 : Int) (A1 : Option Addr) (c1 : Nat) (l1 : List Int) (r : Int) (w : World) (hr1 : Kd.C (Kd.int .i64) w A1 l1.length l1) (hc1 : l1.length ≤ c1) (h : order_Check.f a0 l1 = some r) :
  Calls Try.prog 55 #[.int .i64 a0, .slice A1 l1.length c1] w fun e w' => e = .returned (.int .i64 r) ∧ Below w.heap.size w w' := by
 have H := Option.some.inj h
 clear h
 have hlen : l1.length ≤ 9223372036854775807 := hr1.2.1
 have hmm := @run_makeMap Try.prog
 rcases cells_of_C hr1 with ⟨_, rfl⟩ | ⟨h0, b, off, rfl, hc⟩
 ·clear hr1
  by_cases hn : 0 < a0
  ·have hr : r = 12 := by
    rw [← H]
    simp [ordGo, hn]
   clear H
   go_enter Try.func55, Try.ntmps55
   go_wp2
   go_loopw [7, 11] (fun v i wr => i = .int .i64 0 ∧ Aside0 (Below w.heap.size w wr)) (fun _ i _ => 0)
   case atStart => exact ⟨rfl, ⟨(Below.refl _ _).alloc (Nat.le_refl _) _⟩⟩
   case round =>
    obtain ⟨rfl, HB⟩ := hrel
    go_wp2
    go_ret
    exact ⟨by rw [hr]; rfl, HB.out⟩
  ·have hr : r = 0 := by
    rw [← H]
    simp [ordGo, hn]
   clear H
   go_enter Try.func55, Try.ntmps55
   go_wp2
   go_loopw [7, 11] (fun v i wr => i = .int .i64 0 ∧ Aside0 (Below w.heap.size w wr)) (fun _ i _ => 0)
   case atStart => exact ⟨rfl, ⟨(Below.refl _ _).alloc (Nat.le_refl _) _⟩⟩
   case round =>
    obtain ⟨rfl, HB⟩ := hrel
    go_wp2
    go_ret
    exact ⟨by rw [hr]; rfl, HB.out⟩
 ·have HC := Aside0.mk hc
  clear hc hr1
  have HH := Aside0.mk H
  clear H
  go_enter Try.func55, Try.ntmps55
  go_wp2
  go_loopw [7, 11] (fun v i wr => ∃ (k : Nat) (m : List (Int × Bool)), i = .int .i64 k ∧ k ≤ l1.length ∧ Aside0 (MapIs (Value.int .i64) Value.bool wr w.heap.size m) ∧ Aside0 (Seen m (l1.take k).reverse) ∧ Aside0 (ordGo a0 l1.length (l1.take k).reverse (l1.drop k) = r) ∧ Aside0 (Below w.heap.size w wr)) (fun _ i _ => l1.length - (intOf i).toNat)
  case atStart => exact ⟨0, [], rfl, Nat.zero_le _, ⟨MapIs.made w⟩, ⟨fun v => by simp [mget_nil]⟩, ⟨by simpa using HH.out⟩, ⟨(Below.refl _ _).alloc (Nat.le_refl _) _⟩⟩
  case round =>
   obtain ⟨k, m, rfl, hk, HM, HS, HG, HB⟩ := hrel
   by_cases hlt : k < l1.length
   ·have hcell : wr.cell? ⟨b, off + k, none⟩ = some (.int .i64 (l1.getD k 0)) := pw_cell_below HB.out (HC.out k hlt)
    have hdrop : Aside0 (l1.drop k = l1.getD k 0 :: l1.drop (k + 1)) := ⟨by rw [List.drop_eq_getElem_cons hlt]; simp [List.getElem?_eq_getElem hlt]⟩
    have htake : Aside0 ((l1.take (k + 1)).reverse = l1.getD k 0 :: (l1.take k).reverse) := ⟨by rw [List.take_succ_eq_append_getElem hlt]; simp [List.getElem?_eq_getElem hlt]⟩
    have HG1 := HG.out
    rw [hdrop.out] at HG1
    unfold ordGo at HG1
    generalize l1.getD k 0 = x at hcell hdrop htake HG1
    by_cases h1 : x < 0
    ·rw [if_pos h1] at HG1
     have HR := Aside0.mk HG1
     clear HG1
     go_wp2
     go_ret
     exact ⟨by rw [← HR.out]; rfl, HB.out⟩
    ·rw [if_neg h1] at HG1
     by_cases h2 : x ≥ a0
     ·rw [if_pos h2] at HG1
      have HR := Aside0.mk HG1
      clear HG1
      go_wp2
      go_ret
      exact ⟨by rw [← HR.out]; rfl, HB.out⟩
     ·rw [if_neg h2] at HG1
      by_cases h3 : x ∈ (l1.take k).reverse
      ·rw [if_pos h3] at HG1
       have HR := Aside0.mk HG1
       have hg : Aside0 ((mget m x).getD false = true) := ⟨by rw [HS.out x]; simpa using h3⟩
       clear HG1 h3
       go_wp2_with (refine wp_lookup_map oKey Try.underlying133 false zeroBool_ rfl _ _ false rfl HM.out x rfl rfl (.bool true) (by rw [hg.out]; rfl) ?_)
       go_ret
       exact ⟨by rw [← HR.out]; rfl, HB.out⟩
      ·rw [if_neg h3] at HG1
       have HR := Aside0.mk HG1
       have hg : Aside0 ((mget m x).getD false = false) := ⟨by rw [HS.out x]; simpa using h3⟩
       have h1' : 0 ≤ x := by omega
       have h2' : x < a0 := by omega
       clear HG1 h3 h1 h2
       go_wp2_with (first | (refine wp_lookup_map oKey Try.underlying133 false zeroBool_ rfl _ _ false rfl HM.out x rfl rfl (.bool false) (by rw [hg.out]; rfl) ?_) | (refine wp_mapUpdate_map oKey Try.underlying133 rfl _ _ _ rfl rfl HM.out x true rfl rfl rfl ?_; intro w1 hm1 hg1; have HM1 := Aside0.mk hm1; have HG1 := Aside0.mk hg1; clear hm1 hg1))
       go_roundw
       case rel => exact ⟨k + 1, _, by go_num, by omega, HM1, ⟨by rw [htake.out]; exact HS.out.put x⟩, ⟨by rw [htake.out]; exact HR.out⟩, ⟨HB.out.grown HG1.out HB.out.size (fun j hj => by injection hj with hj; omega)⟩⟩
       case measure => simp [intOf]; omega
   ·have hk2 : k = l1.length := by omega
    have HG1 := HG.out
    rw [hk2, List.drop_length] at HG1
    unfold ordGo at HG1
    by_cases hn : (l1.length : Int) < a0
    ·rw [if_pos hn] at HG1
     have HR := Aside0.mk HG1
     clear HG1 hk2
     go_wp2
     go_ret
     exact ⟨by rw [← HR.out]; rfl, HB.out⟩
    ·rw [if_neg hn] at HG1
     have HR := Aside0.mk HG1
     clear HG1 hk2
     go_wp2
     go_ret
     exact ⟨by rw [← HR.out]; rfl, HB.out⟩
end Go.Proofs.Ytfnophaiamkmpaa.Print
