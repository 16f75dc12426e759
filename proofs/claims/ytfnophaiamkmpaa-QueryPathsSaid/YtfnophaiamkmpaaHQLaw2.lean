import Derived.Test.YtfnophaiamkmpaaM32
namespace Go.Proofs.Ytfnophaiamkmpaa.Print
open Go.RowKit Go.Proofs.YtfnophaiamkmpaaW.PrintWords Go.Proofs.YtfnophaiamkmpaaW.PrintLast Go.Proofs.YtfnophaiamkmpaaW.PrintMore
set_option linter.unusedVariables false
set_option linter.unusedSimpArgs false
def mapmakerlaw42_QueryPaths.f (a0_0 : Int) (l0_1 : List S58) (l0_2 : List Int) (l0_3 : List Int) (a1 : Int) (a2 : Int) : Option Bool := some true
set_option maxHeartbeats 12800000 in
set_option maxRecDepth 100000 in
theorem mapmakerlaw42_QueryPaths.calls (a0_0 : Int) (A0_1 : Option Addr) (c0_1 : Nat) (l0_1 : List S58) (A0_2 : Option Addr) (c0_2 : Nat) (l0_2 : List Int) (A0_3 : Option Addr) (c0_3 : Nat) (l0_3 : List Int) (a1 : Int) (a2 : Int) (r : Bool) (w : World) (hr0_1 : Kd.C k58 w A0_1 l0_1.length l0_1) (hc0_1 : l0_1.length ≤ c0_1) (hr0_2 : Kd.C (Kd.int .i64) w A0_2 l0_2.length l0_2) (hc0_2 : l0_2.length ≤ c0_2) (hr0_3 : Kd.C (Kd.int .i64) w A0_3 l0_3.length l0_3) (hc0_3 : l0_3.length ≤ c0_3) (h : mapmakerlaw42_QueryPaths.f a0_0 l0_1 l0_2 l0_3 a1 a2 = some r) :
  Calls Try.prog 4 #[.agg #[.int .i64 a0_0, .slice A0_1 l0_1.length c0_1, .slice A0_2 l0_2.length c0_2, .slice A0_3 l0_3.length c0_3], .int .i64 a1, .int .i64 a2] w fun e w' => e = .returned (.bool r) ∧ Below w.heap.size w w' := by
 injection h with h
 subst h
 obtain ⟨kv, fb, hfb, hfw⟩ := valid42 a0_0 l0_1 l0_2 l0_3
 have HFB := Aside0.mk hfb
 have HFW := Aside0.mk hfw
 have HG := Aside0.mk hr0_1
 have HL := Aside0.mk hr0_2
 have HW := Aside0.mk hr0_3
 have HGC := Aside0.mk hc0_1
 have HLC := Aside0.mk hc0_2
 have HWC := Aside0.mk hc0_3
 clear hr0_1 hr0_2 hr0_3 hc0_1 hc0_2 hc0_3 hfb hfw
 go_enter Try.func4, Try.ntmps4
 go_wp2_with (fail)
 have HBK := Aside0.mk (heap_alloc_new w (Obj.cells #[.int .i64 a0_0, .slice A0_1 l0_1.length c0_1, .slice A0_2 l0_2.length c0_2, .slice A0_3 l0_3.length c0_3] 27))
 have HBE : Below w.heap.size w (w.alloc (Obj.cells #[.int .i64 a0_0, .slice A0_1 l0_1.length c0_1, .slice A0_2 l0_2.length c0_2, .slice A0_3 l0_3.length c0_3] 27)) := (Below.refl _ _).alloc (Nat.le_refl _) _
 replace HG := Aside0.mk (Kd.C_below HG.out HBE)
 replace HL := Aside0.mk (Kd.C_below HL.out HBE)
 replace HW := Aside0.mk (Kd.C_below HW.out HBE)
 have HB := Aside0.mk HBE
 generalize w.alloc (Obj.cells #[.int .i64 a0_0, .slice A0_1 l0_1.length c0_1, .slice A0_2 l0_2.length c0_2, .slice A0_3 l0_3.length c0_3] 27) = w1 at HBK HG HL HW HB ⊢
 clear HBE
 refine (mapmakerlaw42_valid.calls kv a0_0 A0_1 c0_1 l0_1 A0_2 c0_2 l0_2 A0_3 c0_3 l0_3 fb w1 HG.out HGC.out HL.out HLC.out HW.out HWC.out HFB.out).mono ?_
 rintro e w2 ⟨rfl, hb2⟩
 replace HBK := Aside0.mk (blk_below HBK.out hb2)
 replace HG := Aside0.mk (Kd.C_below HG.out hb2)
 replace HL := Aside0.mk (Kd.C_below HL.out hb2)
 replace HW := Aside0.mk (Kd.C_below HW.out hb2)
 replace HB := Aside0.mk (below_then HB.out HB.out.size hb2)
 clear hb2
 cases fb with
 | false =>
  clear HFW
  go_wp2_with (fail)
  refine (mapmakerlaw42_lives.calls _).mono ?_
  rintro e wl ⟨rfl, hbl⟩
  replace HB := Aside0.mk (below_then HB.out HB.out.size hbl)
  clear hbl
  go_wp2
  go_ret
  exact ⟨rfl, HB.out⟩
 | true =>
  obtain ⟨n, rfl, ho⟩ := HFW.out rfl
  have HO := Aside0.mk ho
  clear ho HFW HFB
  have c0 := (blk_cell HBK.out 0).trans rfl
  have c1 := (blk_cell HBK.out 1).trans rfl
  have c2 := (blk_cell HBK.out 2).trans rfl
  have c3 := (blk_cell HBK.out 3).trans rfl
  go_wp2_with (fail)
  refine (law42_metric.calls HG.out HGC.out HL.out HLC.out HW.out HWC.out HO.out).mono ?_
  rintro e w3 ⟨hb3, q, p, rfl, hM⟩
  have HM := Aside0.mk hM
  replace HBK := Aside0.mk (blk_below HBK.out hb3)
  replace HG := Aside0.mk (Kd.C_below HG.out hb3)
  replace HL := Aside0.mk (Kd.C_below HL.out hb3)
  replace HW := Aside0.mk (Kd.C_below HW.out hb3)
  replace HB := Aside0.mk (below_then HB.out HB.out.size hb3)
  have hpc := HO.out.pc q p
  clear hM hb3 c0 c1 c2 c3
  obtain ⟨D, f, hD⟩ := dist42 HO.out a1 a2
  obtain ⟨kd, hkd⟩ := hD.ev
  go_wp2_with (fail)
  refine (query_Path.calls hpc HM.out a1 a2).mono ?_
  rintro e w4 ⟨hb4, hcs⟩
  replace HM := Aside0.mk (HM.out.below hb4)
  replace HBK := Aside0.mk (blk_below HBK.out hb4)
  replace HG := Aside0.mk (Kd.C_below HG.out hb4)
  replace HL := Aside0.mk (Kd.C_below HL.out hb4)
  replace HW := Aside0.mk (Kd.C_below HW.out hb4)
  replace HB := Aside0.mk (below_then HB.out HB.out.size hb4)
  clear hb4
  rcases hcs with ⟨hv, rfl⟩ | ⟨x, y, hx, hy, hxs, hyt, (⟨hf, rfl⟩ | ⟨hf, v, l, rfl, hr, hw⟩)⟩
  ·obtain ⟨rfl, rfl⟩ := hD.no hv
   have HKD := Aside0.mk hkd
   clear hv hD hkd
   have c0 := (blk_cell HBK.out 0).trans rfl
   have c1 := (blk_cell HBK.out 1).trans rfl
   have c2 := (blk_cell HBK.out 2).trans rfl
   have c3 := (blk_cell HBK.out 3).trans rfl
   go_wp2_with (fail)
   refine (mapmakerref42_Dist.calls kd (n : Int) A0_1 c0_1 l0_1 A0_3 c0_3 l0_3 a1 a2 0 2 _ HG.out HGC.out HW.out HWC.out HKD.out).mono ?_
   rintro e w5 ⟨rfl, hb5⟩
   replace HBK := Aside0.mk (blk_below HBK.out hb5)
   replace HG := Aside0.mk (Kd.C_below HG.out hb5)
   replace HL := Aside0.mk (Kd.C_below HL.out hb5)
   replace HW := Aside0.mk (Kd.C_below HW.out hb5)
   replace HB := Aside0.mk (below_then HB.out HB.out.size hb5)
   clear hb5 c0 c1 c2 c3
   go_wp2_with (fail)
   refine (mapmakerlaw42_lives.calls _).mono ?_
   rintro e wl ⟨rfl, hbl⟩
   replace HB := Aside0.mk (below_then HB.out HB.out.size hbl)
   clear hbl
   go_wp2
   go_ret
   exact ⟨rfl, HB.out⟩
  ·obtain ⟨rfl, _, h2⟩ := hD.at_ x y hx hy hxs hyt
   obtain rfl := h2 hf
   have HKD := Aside0.mk hkd
   clear hD hkd hf h2 hx hy hxs hyt
   have c0 := (blk_cell HBK.out 0).trans rfl
   have c1 := (blk_cell HBK.out 1).trans rfl
   have c2 := (blk_cell HBK.out 2).trans rfl
   have c3 := (blk_cell HBK.out 3).trans rfl
   go_wp2_with (fail)
   refine (mapmakerref42_Dist.calls kd (n : Int) A0_1 c0_1 l0_1 A0_3 c0_3 l0_3 a1 a2 mInf 0 _ HG.out HGC.out HW.out HWC.out HKD.out).mono ?_
   rintro e w5 ⟨rfl, hb5⟩
   replace HBK := Aside0.mk (blk_below HBK.out hb5)
   replace HG := Aside0.mk (Kd.C_below HG.out hb5)
   replace HL := Aside0.mk (Kd.C_below HL.out hb5)
   replace HW := Aside0.mk (Kd.C_below HW.out hb5)
   replace HB := Aside0.mk (below_then HB.out HB.out.size hb5)
   clear hb5 c0 c1 c2 c3
   have hmi : mInf = 1152921504606846976 := rfl
   rw [hmi]
   go_wp2_with (fail)
   refine (mapmakerlaw42_lives.calls _).mono ?_
   rintro e wl ⟨rfl, hbl⟩
   replace HB := Aside0.mk (below_then HB.out HB.out.size hbl)
   clear hbl
   go_wp2
   go_ret
   exact ⟨rfl, HB.out⟩
  ·obtain ⟨rfl, h2, _⟩ := hD.at_ x y hx hy hxs hyt
   obtain ⟨h3, h4⟩ := h2 hf
   obtain ⟨lA, lc, rfl, hlc, hlC⟩ := Kd.R_reads hr
   have hlb := hpc.hk.meet_low hpc.wl hpc.wr hpc.hn hx hy hf
   obtain ⟨kc, hkc⟩ := cost_ev HO.out (hasV_iff.2 (by have := ord_vx hpc.hk.ord hx; rw [hxs] at this; exact ⟨a1.toNat, by omega, by omega⟩)) (hasV_iff.2 (by have := ord_vx hpc.hk.ord hy; rw [hyt] at this; exact ⟨a2.toNat, by omega, by omega⟩)) hw (by omega) (by have := hlC.2.1; omega)
   rw [h3] at hkc ⊢
   have HKC := Aside0.mk hkc
   have HLC2 := Aside0.mk hlC
   have HCC := Aside0.mk hlc
   have HKD := Aside0.mk hkd
   have hmi : mInf = 1152921504606846976 := rfl
   rw [hmi] at h4
   clear hD hkd hf h2 h3 hx hy hxs hyt hr hw hlb hkc hlC hlc
   have c0 := (blk_cell HBK.out 0).trans rfl
   have c1 := (blk_cell HBK.out 1).trans rfl
   have c2 := (blk_cell HBK.out 2).trans rfl
   have c3 := (blk_cell HBK.out 3).trans rfl
   go_wp2_with (fail)
   refine (mapmakerref42_Dist.calls kd (n : Int) A0_1 c0_1 l0_1 A0_3 c0_3 l0_3 a1 a2 D 0 _ HG.out HGC.out HW.out HWC.out HKD.out).mono ?_
   rintro e w5 ⟨rfl, hb5⟩
   replace HBK := Aside0.mk (blk_below HBK.out hb5)
   replace HG := Aside0.mk (Kd.C_below HG.out hb5)
   replace HL := Aside0.mk (Kd.C_below HL.out hb5)
   replace HW := Aside0.mk (Kd.C_below HW.out hb5)
   replace HB := Aside0.mk (below_then HB.out HB.out.size hb5)
   replace HLC2 := Aside0.mk (Kd.C_below HLC2.out hb5)
   clear hb5 c0 c1 c2 c3
   have c0 := (blk_cell HBK.out 0).trans rfl
   have c1 := (blk_cell HBK.out 1).trans rfl
   have c2 := (blk_cell HBK.out 2).trans rfl
   have c3 := (blk_cell HBK.out 3).trans rfl
   go_wp2_with (fail)
   refine (mapmakerref38_Cost.calls kc (n : Int) A0_1 c0_1 l0_1 A0_3 c0_3 l0_3 a1 a2 lA lc l D true _ HG.out HGC.out HW.out HWC.out HLC2.out HCC.out HKC.out).mono ?_
   rintro e w6 ⟨rfl, hb6⟩
   replace HB := Aside0.mk (below_then HB.out HB.out.size hb6)
   clear hb6 c0 c1 c2 c3
   go_wp2_with (fail)
   refine (mapmakerlaw42_lives.calls _).mono ?_
   rintro e wl ⟨rfl, hbl⟩
   replace HB := Aside0.mk (below_then HB.out HB.out.size hbl)
   clear hbl
   go_wp2
   go_ret
   exact ⟨rfl, HB.out⟩
end Go.Proofs.Ytfnophaiamkmpaa.Print
