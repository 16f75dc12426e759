import Derived.Test.YtfnophaiamkmpaaM35
import Derived.Test.YtfnophaiamkmpaaHQWtG
import Derived.Test.YtfnophaiamkmpaaM27
namespace Go.Proofs.Ytfnophaiamkmpaa.Print
open Go.RowKit Go.Proofs.YtfnophaiamkmpaaW.PrintWords Go.Proofs.YtfnophaiamkmpaaW.PrintLast Go.Proofs.YtfnophaiamkmpaaW.PrintMore
set_option linter.unusedVariables false
set_option linter.unusedSimpArgs false
theorem run_field_wt (R R2 n cap cap2 : Nat) (w : World) : (Instr.field 62 (.agg #[.slice (some ⟨R, 0, none⟩) n cap, .slice (some ⟨R2, 0, none⟩) n cap2]) 0).run Try.prog w = .ok (.slice (some ⟨R, 0, none⟩) n cap) w := by kernel_rfl
theorem unp_at {n : Nat} {arcs : List S58} {L ws : List Int} (ho : NetOk n arcs L ws) {i : Nat} (hi : i < eL n arcs L) : ∃ f t : Nat, f < n ∧ t < n ∧ eF n arcs L i = (f : Int) ∧ eT n arcs L i = (t : Int) ∧ (relL n arcs L ws n).1 f t = wtS n arcs L ws false i ∧ (relL n arcs L ws n).1 t f = wtS n arcs L ws true i := by
 have hk := ho.hk
 obtain ⟨x, y, hxy, hyn, e0, e1, hm⟩ := hk.edge_rk hi
 have vx := hk.vtx_lt (show x < n by omega)
 have vy := hk.vtx_lt hyn
 refine ⟨vtx L x, vtx L y, vx.1, vy.1, e0.trans vx.2, e1.trans vy.2, ?_, ?_⟩
 ·rw [hk.relW_end ho.len.2 (by omega) hyn (.inl hm), hk.wt_up hi, e0, e1]
 ·rw [hk.relW_end ho.len.2 hyn (by omega) (.inr hm), hk.wt_dn hi, e0, e1]
structure UnpX (n : Nat) (arcs : List S58) (L ws : List Int) (e : Int) (b : Bool) (l : List Int) (is : Bool) : Prop where
 out : (is = false ∧ l = [] ∧ mInf ≤ unpS n arcs L ws b e) ∨ (is = true ∧ unpS n arcs L ws b e < mInf ∧ ∃ i : Nat, e = (i : Int) ∧ i < eL n arcs L ∧ wtS n arcs L ws (!b) i = unpS n arcs L ws b e ∧ WalkL arcs ws (if b = true then eF n arcs L i else eT n arcs L i) (if b = true then eT n arcs L i else eF n arcs L i) l (wtS n arcs L ws (!b) i))
theorem unpS_at {n : Nat} {arcs : List S58} {L ws : List Int} {b : Bool} {i : Nat} (hi : i < eL n arcs L) : unpS n arcs L ws b (i : Int) = wtS n arcs L ws (!b) i := by
 unfold unpS
 have hl : (wtL n arcs L ws (!b)).length = eL n arcs L := by
  have := sdS_len n arcs L ws
  unfold wtL
  split
  ·exact this.2
  ·exact this.1
 rw [sideS_in (by rw [hl]; exact hi)]
 rfl
theorem UnpX.off {n : Nat} {arcs : List S58} {L ws : List Int} {e : Int} {b : Bool} {l : List Int} {is : Bool} (h : UnpX n arcs L ws e b l is) (he : ¬(0 ≤ e ∧ e < (eL n arcs L : Int))) : is = false ∧ l = [] := by
 rcases h.out with ⟨h1, h2, _⟩ | ⟨_, _, i, rfl, hi, _⟩
 ·exact ⟨h1, h2⟩
 ·exact absurd ⟨by omega, by omega⟩ he
theorem UnpX.at {n : Nat} {arcs : List S58} {L ws : List Int} {i : Nat} {b : Bool} {l : List Int} {is : Bool} (h : UnpX n arcs L ws (i : Int) b l is) (hi : i < eL n arcs L) : (is = false ∧ l = [] ∧ wtS n arcs L ws (!b) i = mInf) ∨ (is = true ∧ wtS n arcs L ws (!b) i < mInf ∧ WalkL arcs ws (if b = true then eF n arcs L i else eT n arcs L i) (if b = true then eT n arcs L i else eF n arcs L i) l (wtS n arcs L ws (!b) i)) := by
 rcases h.out with ⟨h1, h2, h3⟩ | ⟨h1, h2, j, e, hj, h3, h4⟩
 ·rw [unpS_at hi] at h3
  have := wtS_bound (n := n) (arcs := arcs) (L := L) (ws := ws) (b := !b) i
  exact .inl ⟨h1, h2, by omega⟩
 ·obtain rfl : j = i := by omega
  rw [← h3] at h2
  exact .inr ⟨h1, h2, h4⟩
theorem UnpX.atT {n : Nat} {arcs : List S58} {L ws : List Int} {i : Nat} {l : List Int} {is : Bool} (h : UnpX n arcs L ws (i : Int) true l is) (hi : i < eL n arcs L) : (is = false ∧ l = [] ∧ wtS n arcs L ws false i = mInf) ∨ (is = true ∧ wtS n arcs L ws false i < mInf ∧ WalkL arcs ws (eF n arcs L i) (eT n arcs L i) l (wtS n arcs L ws false i)) := h.at hi
theorem UnpX.atF {n : Nat} {arcs : List S58} {L ws : List Int} {i : Nat} {l : List Int} {is : Bool} (h : UnpX n arcs L ws (i : Int) false l is) (hi : i < eL n arcs L) : (is = false ∧ l = [] ∧ wtS n arcs L ws true i = mInf) ∨ (is = true ∧ wtS n arcs L ws true i < mInf ∧ WalkL arcs ws (eT n arcs L i) (eF n arcs L i) l (wtS n arcs L ws true i)) := h.at hi
def mapmakerlaw42_QueryUnpacks.f (a0_0 : Int) (l0_1 : List S58) (l0_2 : List Int) (l0_3 : List Int) (a1 : Int) (a2 : Bool) : Option Bool := some true
set_option maxHeartbeats 3200000 in
set_option maxRecDepth 100000 in
theorem mapmakerlaw42_QueryUnpacks.calls (a0_0 : Int) (A0_1 : Option Addr) (c0_1 : Nat) (l0_1 : List S58) (A0_2 : Option Addr) (c0_2 : Nat) (l0_2 : List Int) (A0_3 : Option Addr) (c0_3 : Nat) (l0_3 : List Int) (a1 : Int) (a2 : Bool) (r : Bool) (w : World) (hr0_1 : Kd.C k58 w A0_1 l0_1.length l0_1) (hc0_1 : l0_1.length ≤ c0_1) (hr0_2 : Kd.C (Kd.int .i64) w A0_2 l0_2.length l0_2) (hc0_2 : l0_2.length ≤ c0_2) (hr0_3 : Kd.C (Kd.int .i64) w A0_3 l0_3.length l0_3) (hc0_3 : l0_3.length ≤ c0_3) (h : mapmakerlaw42_QueryUnpacks.f a0_0 l0_1 l0_2 l0_3 a1 a2 = some r) :
  Calls Try.prog 7 #[.agg #[.int .i64 a0_0, .slice A0_1 l0_1.length c0_1, .slice A0_2 l0_2.length c0_2, .slice A0_3 l0_3.length c0_3], .int .i64 a1, .bool a2] w fun e w' => e = .returned (.bool r) ∧ Below w.heap.size w w' := by
 injection h with h
 subst h
 obtain ⟨kv, fb, hfb, hfw⟩ := valid42 a0_0 l0_1 l0_2 l0_3
 have HFB := Aside0.mk hfb
 have HFW := Aside0.mk hfw
 have HG := Aside0.mk hr0_1
 have HL := Aside0.mk hr0_2
 have HW := Aside0.mk hr0_3
 have HGC := Aside0.mk hc0_1
 have HLC := Aside0.mk hc0_2
 have HWC := Aside0.mk hc0_3
 clear hr0_1 hr0_2 hr0_3 hc0_1 hc0_2 hc0_3 hfb hfw
 go_enter Try.func7, Try.ntmps7
 go_wp2_with (fail)
 have HBK := Aside0.mk (heap_alloc_new w (Obj.cells #[.int .i64 a0_0, .slice A0_1 l0_1.length c0_1, .slice A0_2 l0_2.length c0_2, .slice A0_3 l0_3.length c0_3] 27))
 have HBE : Below w.heap.size w (w.alloc (Obj.cells #[.int .i64 a0_0, .slice A0_1 l0_1.length c0_1, .slice A0_2 l0_2.length c0_2, .slice A0_3 l0_3.length c0_3] 27)) := (Below.refl _ _).alloc (Nat.le_refl _) _
 replace HG := Aside0.mk (Kd.C_below HG.out HBE)
 replace HL := Aside0.mk (Kd.C_below HL.out HBE)
 replace HW := Aside0.mk (Kd.C_below HW.out HBE)
 have HB := Aside0.mk HBE
 generalize w.alloc (Obj.cells #[.int .i64 a0_0, .slice A0_1 l0_1.length c0_1, .slice A0_2 l0_2.length c0_2, .slice A0_3 l0_3.length c0_3] 27) = w1 at HBK HG HL HW HB ⊢
 clear HBE
 refine (mapmakerlaw42_valid.calls kv a0_0 A0_1 c0_1 l0_1 A0_2 c0_2 l0_2 A0_3 c0_3 l0_3 fb w1 HG.out HGC.out HL.out HLC.out HW.out HWC.out HFB.out).mono ?_
 rintro e w2 ⟨rfl, hb2⟩
 replace HBK := Aside0.mk (blk_below HBK.out hb2)
 replace HG := Aside0.mk (Kd.C_below HG.out hb2)
 replace HL := Aside0.mk (Kd.C_below HL.out hb2)
 replace HW := Aside0.mk (Kd.C_below HW.out hb2)
 replace HB := Aside0.mk (below_then HB.out HB.out.size hb2)
 clear hb2
 cases fb with
 | false =>
  clear HFW
  go_wp2_with (fail)
  refine (mapmakerlaw42_lives.calls _).mono ?_
  rintro e wl ⟨rfl, hbl⟩
  replace HB := Aside0.mk (below_then HB.out HB.out.size hbl)
  clear hbl
  go_wp2
  go_ret
  exact ⟨rfl, HB.out⟩
 | true =>
  obtain ⟨n, rfl, ho⟩ := HFW.out rfl
  have HO := Aside0.mk ho
  clear ho HFW HFB
  have c0 := (blk_cell HBK.out 0).trans rfl
  have c1 := (blk_cell HBK.out 1).trans rfl
  have c2 := (blk_cell HBK.out 2).trans rfl
  have c3 := (blk_cell HBK.out 3).trans rfl
  go_wp2_with (fail)
  refine (law42_metric.calls HG.out HGC.out HL.out HLC.out HW.out HWC.out HO.out).mono ?_
  rintro e w3 ⟨hb3, q, p, rfl, hM⟩
  have HM := Aside0.mk hM
  replace HBK := Aside0.mk (blk_below HBK.out hb3)
  replace HG := Aside0.mk (Kd.C_below HG.out hb3)
  replace HL := Aside0.mk (Kd.C_below HL.out hb3)
  replace HW := Aside0.mk (Kd.C_below HW.out hb3)
  replace HB := Aside0.mk (below_then HB.out HB.out.size hb3)
  have hpc := HO.out.pc q p
  clear hM hb3 c0 c1 c2 c3
  have c0 := (blk_cell HBK.out 0).trans rfl
  have c1 := (blk_cell HBK.out 1).trans rfl
  have c2 := (blk_cell HBK.out 2).trans rfl
  have c3 := (blk_cell HBK.out 3).trans rfl
  have hns := HO.out.hn
  have hal := HO.out.al
  have HLN := Aside0.mk HO.out.len
  have HNC := Aside0.mk (contract_New.calls (N := (n : Int)) HG.out HGC.out HL.out HLC.out (.inl (by omega)) (by omega) (by have := HLN.out; omega))
  go_wp2_with (fail)
  refine HNC.out.mono ?_
  rintro e w4 ⟨hb4, (⟨hne, _⟩ | ⟨h0, ph, rfl, hH⟩)⟩
  ·exact absurd (by
    unfold newErr
    rw [if_neg (fun x => x (dchk_ok HO.out.hd).1)]
    exact ord_of_isOrd HO.out.hk.ord) hne
  rw [Int.toNat_natCast] at hH
  have HH := Aside0.mk (show HierOf w4 ph n l0_1 l0_2 from hH)
  replace HM := Aside0.mk (HM.out.below hb4)
  replace HBK := Aside0.mk (blk_below HBK.out hb4)
  replace HG := Aside0.mk (Kd.C_below HG.out hb4)
  replace HL := Aside0.mk (Kd.C_below HL.out hb4)
  replace HW := Aside0.mk (Kd.C_below HW.out hb4)
  replace HB := Aside0.mk (below_then HB.out HB.out.size hb4)
  clear hb4 hH h0 HNC c0 c1 c2 c3
  go_wp2_with (fail)
  refine (query_Unpack.calls hpc HM.out a1 a2).mono ?_
  rintro e w5 ⟨hb5, hcs⟩
  replace HBK := Aside0.mk (blk_below HBK.out hb5)
  replace HG := Aside0.mk (Kd.C_below HG.out hb5)
  replace HL := Aside0.mk (Kd.C_below HL.out hb5)
  replace HW := Aside0.mk (Kd.C_below HW.out hb5)
  replace HB := Aside0.mk (below_then HB.out HB.out.size hb5)
  replace HH := Aside0.mk (HH.out.below hb5)
  obtain ⟨pA, pc, pl, is, rfl, hpc2, hpC, hux⟩ : ∃ (pA : Option Addr) (pc : Nat) (pl : List Int) (is : Bool), e = .returned (.tuple #[.slice pA pl.length pc, .bool is]) ∧ pl.length ≤ pc ∧ Kd.C (Kd.int .i64) w5 pA pl.length pl ∧ UnpX n l0_1 l0_2 l0_3 a1 a2 pl is := by
   rcases hcs with ⟨hm, rfl⟩ | ⟨v, rfl, hU⟩
   ·obtain ⟨A9, c9, e9, h1, h2⟩ := Kd.R_reads (Kd.R_nil (Kd.int .i64) 3 w5 0 (fun _ => True))
    refine ⟨A9, c9, [], false, ?_, h1, h2, ⟨.inl ⟨rfl, rfl, hm⟩⟩⟩
    rw [← e9]
   ·obtain ⟨h1, i, l, h2, h3, h4, h5, h6⟩ := hU.out
    obtain ⟨A9, c9, rfl, h7, h8⟩ := Kd.R_reads h5
    exact ⟨A9, c9, l, true, rfl, h7, h8, ⟨.inr ⟨rfl, h1, i, h2, h3, h4, h6⟩⟩⟩
  have HP := Aside0.mk hpC
  have HPC := Aside0.mk hpc2
  have HUX := Aside0.mk hux
  clear hb5 hcs hpC hpc2 hux HM
  have HEC := Aside0.mk (Hier_Edges.calls (show HierR w5 ph n l0_1 l0_2 (ranksTo l0_2 l0_2.length) (hierS n l0_1 l0_2) from HH.out) (by have := HO.out.hk.short (by omega); omega))
  have hES := HO.out.hk.short (by omega)
  obtain ⟨m, HME⟩ : ∃ m, Aside0 ((hierS n l0_1 l0_2).edges.length = m) := ⟨_, ⟨rfl⟩⟩
  rw [HME.out] at hES
  go_wp2_with (fail)
  refine HEC.out.mono ?_
  rintro e w6 ⟨v6, rfl, hr6, hb6⟩
  obtain ⟨eA, ec, rfl, _, heC⟩ := Kd.R_reads hr6
  replace HBK := Aside0.mk (blk_below HBK.out hb6)
  replace HG := Aside0.mk (Kd.C_below HG.out hb6)
  replace HL := Aside0.mk (Kd.C_below HL.out hb6)
  replace HW := Aside0.mk (Kd.C_below HW.out hb6)
  replace HB := Aside0.mk (below_then HB.out HB.out.size hb6)
  replace HP := Aside0.mk (Kd.C_below HP.out hb6)
  have HED := Aside0.mk heC
  rw [HME.out]
  clear hb6 hr6 heC HEC HH
  by_cases hr : 0 ≤ a1 ∧ a1 < (m : Int)
  rotate_left
  ·obtain ⟨rfl, rfl⟩ := HUX.out.off (by have h1 : eL n l0_1 l0_2 = m := HME.out; rw [h1]; exact hr)
   by_cases h0 : a1 < 0
   ·go_wp2_with (fail)
    refine (mapmakerlaw42_lives.calls _).mono ?_
    rintro e wl ⟨rfl, hbl⟩
    replace HB := Aside0.mk (below_then HB.out HB.out.size hbl)
    clear hbl
    go_wp2
    go_ret
    exact ⟨rfl, HB.out⟩
   ·have h1 : ¬ a1 < (m : Int) := fun h => hr ⟨by omega, h⟩
    go_wp2_with (fail)
    refine (mapmakerlaw42_lives.calls _).mono ?_
    rintro e wl ⟨rfl, hbl⟩
    replace HB := Aside0.mk (below_then HB.out HB.out.size hbl)
    clear hbl
    go_wp2
    go_ret
    exact ⟨rfl, HB.out⟩
  obtain ⟨i, rfl⟩ := Int.eq_ofNat_of_zero_le hr.1
  have him : i < m := by omega
  have hi : i < eL n l0_1 l0_2 := by have h1 : eL n l0_1 l0_2 = m := HME.out; omega
  obtain ⟨f, t, hf, ht, hf0, ht0, hwf, hwt⟩ := unp_at HO.out hi
  obtain ⟨eb, eo, heA, ex0, ex1⟩ := edge_cells HED.out (i := i) (by have := HME.out; omega)
  subst heA
  rw [show ((hierS n l0_1 l0_2).edges.getD i z58).f0 = (f : Int) from hf0] at ex0
  rw [show ((hierS n l0_1 l0_2).edges.getD i z58).f1 = (t : Int) from ht0] at ex1
  clear hr
  go_upto_region 11 with (fail)
  refine s_ (fun w' => w'.cell? ⟨eb, eo + i * 2, none⟩ = some (.int .i64 (f : Int)) ∧ w'.cell? ⟨eb, eo + i * 2 + 1, none⟩ = some (.int .i64 (t : Int))) [] ⟨ex0, ex1⟩ (fun hHeld => ?_)
  have hbd : Below w6.heap.size w6 w6.drew := below_drew (Below.refl _ _)
  replace HBK := Aside0.mk (blk_below HBK.out hbd)
  replace HG := Aside0.mk (Kd.C_below HG.out hbd)
  replace HL := Aside0.mk (Kd.C_below HL.out hbd)
  replace HW := Aside0.mk (Kd.C_below HW.out hbd)
  replace HB := Aside0.mk (below_then HB.out HB.out.size hbd)
  replace HP := Aside0.mk (Kd.C_below HP.out hbd)
  clear hbd ex0 ex1 HED
  generalize w6.drew = w7 at HBK HG HL HW HB HP hHeld ⊢
  refine p_ 0 65 ?_
  refine p_ 1 66 ?_
  refine p_ 2 67 ?_
  refine p_ 3 68 ?_
  refine t2_ 4 69 hHeld ?_
  refine p_ 5 70 ?_
  refine p_ 6 71 ?_
  refine p_ 7 72 ?_
  refine p_ 8 73 ?_
  refine t2_ 9 74 hHeld ?_
  refine p_ 10 13 ?_
  refine p_ 11 14 ?_
  refine d_ ?_
  clear hHeld
  cases a2 with
  | true =>
   have hcs := HUX.out.atT hi
   have HWT := Aside0.mk (ref42_Weights.calls HO.out.hk (by omega) (by have := HO.out.hn; omega) HG.out HGC.out HL.out HLC.out HW.out HWC.out HO.out.len.2 (by have := HO.out.al; omega))
   have c0 := (blk_cell HBK.out 0).trans rfl
   have c1 := (blk_cell HBK.out 1).trans rfl
   have c2 := (blk_cell HBK.out 2).trans rfl
   have c3 := (blk_cell HBK.out 3).trans rfl
   go_wp2_with (fail)
   refine HWT.out.mono ?_
   rintro e w7 ⟨hb7, vw, rfl, hwi⟩
   obtain ⟨lo, tt, R, cap, rb, base, R2, cap2, Gb, rb2, gg, rfl, hcap, _, hTI, _⟩ := hwi.out
   replace HBK := Aside0.mk (blk_below HBK.out hb7)
   replace HG := Aside0.mk (Kd.C_below HG.out hb7)
   replace HW := Aside0.mk (Kd.C_below HW.out hb7)
   replace HB := Aside0.mk (below_then HB.out HB.out.size hb7)
   replace HP := Aside0.mk (Kd.C_below HP.out hb7)
   have hfr := run_field_wt R R2 n cap cap2
   have z1 := hTI.row f hf
   have z2 := hTI.cel f hf t ht
   rw [hwf] at z2
   clear hwi hTI hb7 HWT c0 c1 c2 c3
   rcases hcs with ⟨rfl, rfl, hwm⟩ | ⟨rfl, hwl, hwk⟩
   ·rw [hwm] at z2
    have hmi : mInf = 1152921504606846976 := rfl
    rw [hmi] at z2
    go_wp2_with (fail)
    refine (mapmakerlaw42_lives.calls _).mono ?_
    rintro e wl ⟨rfl, hbl⟩
    replace HB := Aside0.mk (below_then HB.out HB.out.size hbl)
    clear hbl
    go_wp2
    go_ret
    exact ⟨rfl, HB.out⟩
   ·rw [hf0, ht0] at hwk
    have hmi : mInf = 1152921504606846976 := rfl
    rw [hmi] at hwl
    have hlen := HP.out.2.1
    obtain ⟨kc, hkc⟩ := cost_ev HO.out (hasV_iff.2 ⟨_, hf, rfl⟩) (hasV_iff.2 ⟨_, ht, rfl⟩) hwk (by omega) hlen
    have HKC := Aside0.mk hkc
    have hnn := (wtS_bound (n := n) (arcs := l0_1) (L := l0_2) (ws := l0_3) (b := false) i).1
    generalize wtS n l0_1 l0_2 l0_3 false i = ww at z2 hwl HKC hnn
    clear hkc hwk hlen
    have c0 := (blk_cell HBK.out 0).trans rfl
    have c1 := (blk_cell HBK.out 1).trans rfl
    have c2 := (blk_cell HBK.out 2).trans rfl
    have c3 := (blk_cell HBK.out 3).trans rfl
    have hne : (ww == 1152921504606846976) = false := beq_eq_false_iff_ne.mpr (by omega)
    go_wp2_with (fail)
    refine (mapmakerref38_Cost.calls kc (n : Int) A0_1 c0_1 l0_1 A0_3 c0_3 l0_3 (f : Int) (t : Int) pA pc pl ww true _ HG.out HGC.out HW.out HWC.out HP.out HPC.out HKC.out).mono ?_
    rintro e w8 ⟨rfl, hb8⟩
    replace HB := Aside0.mk (below_then HB.out HB.out.size hb8)
    clear hb8 c0 c1 c2 c3
    go_wp2_with (fail)
    refine (mapmakerlaw42_lives.calls _).mono ?_
    rintro e wl ⟨rfl, hbl⟩
    replace HB := Aside0.mk (below_then HB.out HB.out.size hbl)
    clear hbl
    go_wp2
    go_ret
    exact ⟨rfl, HB.out⟩
  | false =>
   have hcs := HUX.out.atF hi
   have HWT := Aside0.mk (ref42_Weights.calls HO.out.hk (by omega) (by have := HO.out.hn; omega) HG.out HGC.out HL.out HLC.out HW.out HWC.out HO.out.len.2 (by have := HO.out.al; omega))
   have c0 := (blk_cell HBK.out 0).trans rfl
   have c1 := (blk_cell HBK.out 1).trans rfl
   have c2 := (blk_cell HBK.out 2).trans rfl
   have c3 := (blk_cell HBK.out 3).trans rfl
   go_wp2_with (fail)
   refine HWT.out.mono ?_
   rintro e w7 ⟨hb7, vw, rfl, hwi⟩
   obtain ⟨lo, tt, R, cap, rb, base, R2, cap2, Gb, rb2, gg, rfl, hcap, _, hTI, _⟩ := hwi.out
   replace HBK := Aside0.mk (blk_below HBK.out hb7)
   replace HG := Aside0.mk (Kd.C_below HG.out hb7)
   replace HW := Aside0.mk (Kd.C_below HW.out hb7)
   replace HB := Aside0.mk (below_then HB.out HB.out.size hb7)
   replace HP := Aside0.mk (Kd.C_below HP.out hb7)
   have hfr := run_field_wt R R2 n cap cap2
   have z1 := hTI.row t ht
   have z2 := hTI.cel t ht f hf
   rw [hwt] at z2
   clear hwi hTI hb7 HWT c0 c1 c2 c3
   rcases hcs with ⟨rfl, rfl, hwm⟩ | ⟨rfl, hwl, hwk⟩
   ·rw [hwm] at z2
    have hmi : mInf = 1152921504606846976 := rfl
    rw [hmi] at z2
    go_wp2_with (fail)
    refine (mapmakerlaw42_lives.calls _).mono ?_
    rintro e wl ⟨rfl, hbl⟩
    replace HB := Aside0.mk (below_then HB.out HB.out.size hbl)
    clear hbl
    go_wp2
    go_ret
    exact ⟨rfl, HB.out⟩
   ·rw [hf0, ht0] at hwk
    have hmi : mInf = 1152921504606846976 := rfl
    rw [hmi] at hwl
    have hlen := HP.out.2.1
    obtain ⟨kc, hkc⟩ := cost_ev HO.out (hasV_iff.2 ⟨_, ht, rfl⟩) (hasV_iff.2 ⟨_, hf, rfl⟩) hwk (by omega) hlen
    have HKC := Aside0.mk hkc
    have hnn := (wtS_bound (n := n) (arcs := l0_1) (L := l0_2) (ws := l0_3) (b := true) i).1
    generalize wtS n l0_1 l0_2 l0_3 true i = ww at z2 hwl HKC hnn
    clear hkc hwk hlen
    have c0 := (blk_cell HBK.out 0).trans rfl
    have c1 := (blk_cell HBK.out 1).trans rfl
    have c2 := (blk_cell HBK.out 2).trans rfl
    have c3 := (blk_cell HBK.out 3).trans rfl
    have hne : (ww == 1152921504606846976) = false := beq_eq_false_iff_ne.mpr (by omega)
    go_wp2_with (fail)
    refine (mapmakerref38_Cost.calls kc (n : Int) A0_1 c0_1 l0_1 A0_3 c0_3 l0_3 (t : Int) (f : Int) pA pc pl ww true _ HG.out HGC.out HW.out HWC.out HP.out HPC.out HKC.out).mono ?_
    rintro e w8 ⟨rfl, hb8⟩
    replace HB := Aside0.mk (below_then HB.out HB.out.size hb8)
    clear hb8 c0 c1 c2 c3
    go_wp2_with (fail)
    refine (mapmakerlaw42_lives.calls _).mono ?_
    rintro e wl ⟨rfl, hbl⟩
    replace HB := Aside0.mk (below_then HB.out HB.out.size hbl)
    clear hbl
    go_wp2
    go_ret
    exact ⟨rfl, HB.out⟩
end Go.Proofs.Ytfnophaiamkmpaa.Print
