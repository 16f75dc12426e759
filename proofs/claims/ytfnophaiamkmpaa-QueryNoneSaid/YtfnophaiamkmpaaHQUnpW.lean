import Derived.Test.YtfnophaiamkmpaaHQUnp
namespace Go.Proofs.Ytfnophaiamkmpaa.Print
open Go.RowKit Go.Proofs.YtfnophaiamkmpaaW.PrintWords Go.Proofs.YtfnophaiamkmpaaW.PrintLast Go.Proofs.YtfnophaiamkmpaaW.PrintMore
set_option linter.unusedVariables false
set_option linter.unusedSimpArgs false
theorem edge_cells {w : World} {eA : Option Addr} {es : List S58} (h : Kd.C k58 w eA es.length es) {i : Nat} (hi : i < es.length) : ∃ ab ao, eA = some ⟨ab, ao, none⟩ ∧ w.cell? ⟨ab, ao + i * 2, none⟩ = some (.int .i64 (es.getD i z58).f0) ∧ w.cell? ⟨ab, ao + i * 2 + 1, none⟩ = some (.int .i64 (es.getD i z58).f1) := by
 obtain ⟨ae, hA2, hx0, hx1⟩ := at_T58 h (i : Int) (by omega) (by omega)
 obtain ⟨ae2, hA3, hz0, _⟩ := at_T58 h 0 (by omega) (by omega)
 obtain rfl : ae2 = ae := Option.some.inj (hA3.symm.trans hA2)
 have hsp := spot_of_cell (ad := ae2) (by exact hz0)
 obtain ⟨ab, ao, asb⟩ := ae2
 injection hsp with hz1 hz2 hes
 subst hes
 simp only [Addr.add_lit, Int.toNat_natCast] at hx0 hx1
 rw [rd_getD] at hx0 hx1
 exact ⟨ab, ao, hA2, hx0, hx1⟩
set_option maxHeartbeats 12800000 in
set_option maxRecDepth 100000 in
theorem query_weight.calls {w : World} {pu q p n : Nat} {arcs : List S58} {L ws : List Int} (hk : Hk n arcs L) (hn : n ≤ 1000) (hU : UnpR w pu q p n arcs L ws) {u v : Int} {i : Nat} (hi : i < eL n arcs L) (huv : (eF n arcs L i = u ∧ eT n arcs L i = v) ∨ (eF n arcs L i = v ∧ eT n arcs L i = u)) :
  Calls Try.prog 83 #[.pointer (some ⟨pu, 0, none⟩), .int .i64 u, .int .i64 v] w fun e w' => e = .returned (.tuple #[.int .i64 (i : Int), .bool (decide (eF n arcs L i = u)), .int .i64 (atS n arcs L ws u v)]) ∧ Below w.heap.size w w' := by
 obtain ⟨eA, ec, ma, wA, wc, h1, h2, h3, h4, h5⟩ := hU.out
 have HK := Aside0.mk hk
 have HX := Aside0.mk h1
 have HE := Aside0.mk h2
 have HM := Aside0.mk h5
 have hfi : findS n (ranksTo L L.length) (hierS n arcs L) u v = ((i : Int), true) := hk.hF_ix (hk.ix hi huv)
 have HAT := Aside0.mk (hk.at_ix (ws := ws) (hk.ix hi huv))
 have HRD := Aside0.mk (h5.reads hk hn)
 have HHR := Aside0.mk h5.hier
 have HLR := Aside0.mk hk.lenR
 have hsd := sdS_len n arcs L ws
 have HS1 := Aside0.mk (sideS_in (l := (sdS n arcs L ws).1) (j := i) (by rw [hsd.1]; exact hi))
 have HS2 := Aside0.mk (sideS_in (l := (sdS n arcs L ws).2) (j := i) (by rw [hsd.2]; exact hi))
 have HFI := Aside0.mk hfi
 have hi' : i < (hierS n arcs L).edges.length := hi
 have c0 := (blk_cell h1 0).trans rfl
 clear hk hU h1 h2 h3 h4 h5 hfi hsd huv hi
 obtain ⟨f0, HF0⟩ : ∃ x, Aside0 (((hierS n arcs L).edges.getD i z58).f0 = x) := ⟨_, ⟨rfl⟩⟩
 have HF0b : Aside0 (eF n arcs L i = f0) := HF0
 rw [HF0.out] at HAT
 rw [HF0b.out]
 go_enter Try.func83, Try.ntmps83
 go_wp2_with (fail)
 refine (Metric_Hier.calls HRD.out).mono ?_
 rintro e w0 ⟨rfl, rfl⟩
 go_wp2_with (fail)
 refine (Hier_Find.calls HHR.out HLR.out u v).mono ?_
 rintro e w1 ⟨rfl, hb1⟩
 rw [HFI.out]
 dsimp only
 have HB := Aside0.mk hb1
 have HX1 := Aside0.mk (blk_below HX.out hb1)
 have HR1 := Aside0.mk ((HM.out.below hb1).reads HK.out hn)
 obtain ⟨eb, eo, heA, ex0, ex1⟩ := edge_cells (Kd.C_below HE.out hb1) hi'
 subst heA
 have c1 := (blk_cell HX1.out 1).trans rfl
 have c0b := (blk_cell HX1.out 0).trans rfl
 clear hb1 c0 ex1
 rw [HF0.out] at ex0
 by_cases hf : f0 = u
 ·subst hf
  have HA1 : Aside0 (atS n arcs L ws f0 v = (sdS n arcs L ws).1.getD i 0) := ⟨by rw [HAT.out, if_pos rfl]⟩
  go_wp2_with (fail)
  refine (Metric_Up.calls HR1.out (i : Int)).mono ?_
  rintro e w2 ⟨rfl, rfl⟩
  go_wp2_with (fail)
  go_ret3
  exact ⟨by rw [HS1.out, HA1.out]; first | rfl | (rw [decide_eq_true rfl]; rfl) | (simp; done), HB.out⟩
 ·have HA1 : Aside0 (atS n arcs L ws u v = (sdS n arcs L ws).2.getD i 0) := ⟨by rw [HAT.out, if_neg hf]⟩
  have HDF : Aside0 (decide (f0 = u) = false) := ⟨decide_eq_false hf⟩
  go_wp2_with (fail)
  refine (Metric_Down.calls HR1.out (i : Int)).mono ?_
  rintro e w2 ⟨rfl, rfl⟩
  go_wp2_with (fail)
  go_ret3
  exact ⟨by rw [HS2.out, HA1.out, HDF.out]; rfl, HB.out⟩
def UnpS (W0 : World) (pu n : Nat) (arcs : List S58) (L ws : List Int) (x : Nat) : Prop := ∀ (w : World) (e : Nat) (b : Bool) (pv : Value) (P : List Int), x < n → Below W0.heap.size W0 w → e < eL n arcs L → eF n arcs L e = L.getD x 0 → wtS n arcs L ws (!b) e < mInf → Kd.R (Kd.int .i64) 3 w W0.heap.size (fun _ => True) pv P → P.length + 2 ^ x ≤ 1000000000 →
  Calls Try.prog 52 #[.pointer (some ⟨pu, 0, none⟩), pv, .int .i64 (e : Int), .bool b] w fun ev w' => ∃ (v : Value) (l : List Int), ev = .returned v ∧ Below W0.heap.size W0 w' ∧ Kd.R (Kd.int .i64) 3 w' W0.heap.size (fun _ => True) v (P ++ l) ∧ WalkL arcs ws (if b = true then eF n arcs L e else eT n arcs L e) (if b = true then eT n arcs L e else eF n arcs L e) l (wtS n arcs L ws (!b) e) ∧ l.length ≤ 2 ^ x
theorem UnpS.ap {W0 : World} {pu n : Nat} {arcs : List S58} {L ws : List Int} {x : Nat} (h : UnpS W0 pu n arcs L ws x) {w : World} {e : Nat} (b : Bool) {pv : Value} {P : List Int} (h1 : x < n) (h2 : Below W0.heap.size W0 w) (h3 : e < eL n arcs L) (h4 : eF n arcs L e = L.getD x 0) (h5 : wtS n arcs L ws (!b) e < mInf) (h6 : Kd.R (Kd.int .i64) 3 w W0.heap.size (fun _ => True) pv P) (h7 : P.length + 2 ^ x ≤ 1000000000) :
  Calls Try.prog 52 #[.pointer (some ⟨pu, 0, none⟩), pv, .int .i64 (e : Int), .bool b] w fun ev w' => ∃ (v : Value) (l : List Int), ev = .returned v ∧ Below W0.heap.size W0 w' ∧ Kd.R (Kd.int .i64) 3 w' W0.heap.size (fun _ => True) v (P ++ l) ∧ WalkL arcs ws (if b = true then eF n arcs L e else eT n arcs L e) (if b = true then eT n arcs L e else eF n arcs L e) l (wtS n arcs L ws (!b) e) ∧ l.length ≤ 2 ^ x := h w e b pv P h1 h2 h3 h4 h5 h6 h7
structure UnpF (n : Nat) (arcs : List S58) (L ws : List Int) (x e : Nat) (f t W : Int) : Prop where
 sp : (∀ j, j < arcs.length → (arcs.getD j z58).f0 = f → (arcs.getD j z58).f1 = t → 0 ≤ ws.getD j 0 → W ≤ ws.getD j 0) ∧ (W < mInf → (∃ j, j < arcs.length ∧ (arcs.getD j z58).f0 = f ∧ (arcs.getD j z58).f1 = t ∧ 0 ≤ ws.getD j 0 ∧ ws.getD j 0 = W) ∨ (∃ y ∈ lowerS (hierS n arcs L) (e : Int), over (atS n arcs L ws f y) (atS n arcs L ws y t) = W))
 lo : ∀ y ∈ lowerS (hierS n arcs L) (e : Int), ∃ e1 e2 x1 : Nat, x1 < x ∧ e1 < eL n arcs L ∧ e2 < eL n arcs L ∧ eF n arcs L e1 = y ∧ eT n arcs L e1 = f ∧ eF n arcs L e2 = y ∧ eT n arcs L e2 = t ∧ y = L.getD x1 0
 am : (∀ p v, mget (amTo arcs ws arcs.length) p = some v → ∃ j : Nat, j < arcs.length ∧ v = (j : Int) ∧ amKey arcs j = p ∧ 0 ≤ ws.getD j 0) ∧ (∀ j, j < arcs.length → 0 ≤ ws.getD j 0 → ∃ v : Nat, mget (amTo arcs ws arcs.length) (amKey arcs j) = some (v : Int) ∧ ws.getD v 0 ≤ ws.getD j 0)
 wt : ∀ e1 e2 : Nat, e1 < eL n arcs L → e2 < eL n arcs L → atS n arcs L ws (eT n arcs L e1) (eF n arcs L e1) = wtS n arcs L ws true e1 ∧ atS n arcs L ws (eF n arcs L e2) (eT n arcs L e2) = wtS n arcs L ws false e2
 ne : ∀ i, i < eL n arcs L → eF n arcs L i ≠ eT n arcs L i
 bd : ∀ u v, (0 ≤ atS n arcs L ws u v ∧ atS n arcs L ws u v ≤ mInf)
 ll : (lowerS (hierS n arcs L) (e : Int)).length ≤ 1000000000
structure UnpY (n : Nat) (arcs : List S58) (L ws : List Int) (e : Nat) (f t W : Int) : Prop where
 out : ∃ y ∈ lowerS (hierS n arcs L) (e : Int), over (atS n arcs L ws f y) (atS n arcs L ws y t) = W
structure UnpN (n : Nat) (arcs : List S58) (L ws ll : List Int) (f t W : Int) (j : Nat) : Prop where
 out : ∀ i, i < j → over (atS n arcs L ws f (ll.getD i 0)) (atS n arcs L ws (ll.getD i 0) t) ≠ W
def UnpL (p n e : Nat) (arcs : List S58) (L : List Int) : Prop := ∀ W1, HierOf W1 p n arcs L → Calls Try.prog 82 #[.pointer (some ⟨p, 0, none⟩), .int .i64 (e : Int)] W1 fun ev w' => ∃ v : Value, ev = .returned v ∧ Kd.R (Kd.int .i64) 3 w' W1.heap.size (fun _ => True) v (lowerS (hierS n arcs L) (e : Int)) ∧ Below W1.heap.size W1 w'
structure UnpE (n : Nat) (arcs : List S58) (L : List Int) (e1 e2 x1 : Nat) (y f t : Int) : Prop where
 h1 : e1 < eL n arcs L
 h2 : e2 < eL n arcs L
 q1 : eF n arcs L e1 = y
 q2 : eT n arcs L e1 = f
 q3 : eF n arcs L e2 = y
 q4 : eT n arcs L e2 = t
 q5 : y = L.getD x1 0
set_option maxHeartbeats 25600000 in
set_option maxRecDepth 100000 in
theorem query_unpack.calls {W0 : World} {pu q p n : Nat} {arcs : List S58} {L ws : List Int} (hk : Hk n arcs L) (hn : n ≤ 20) (hwl : ws.length = arcs.length) (hwr : ∀ i, i < ws.length → ws.getD i 0 ≤ 1073741824) (hal : arcs.length ≤ 1000000) (hU : UnpR W0 pu q p n arcs L ws) : ∀ (x : Nat), UnpS W0 pu n arcs L ws x := by
 intro x
 induction x using Nat.strongRecOn with
 | ind x ih =>
  intro w e b pv P hxn hb he hex hw hP hPl
  have IH : Aside0 (∀ y, y < x → UnpS W0 pu n arcs L ws y) := ⟨ih⟩
  have HK := Aside0.mk hk
  have HB := Aside0.mk hb
  have HU := Aside0.mk hU
  have HWL := Aside0.mk hwl
  have he' : e < (hierS n arcs L).edges.length := he
  obtain ⟨f, HF⟩ : ∃ f, Aside0 ((if b = true then eF n arcs L e else eT n arcs L e) = f) := ⟨_, ⟨rfl⟩⟩
  obtain ⟨t, HT⟩ : ∃ t, Aside0 ((if b = true then eT n arcs L e else eF n arcs L e) = t) := ⟨_, ⟨rfl⟩⟩
  obtain ⟨W, HW⟩ : ∃ W, Aside0 (wtS n arcs L ws (!b) e = W) := ⟨_, ⟨rfl⟩⟩
  have huv : (f = eF n arcs L e ∧ t = eT n arcs L e) ∨ (f = eT n arcs L e ∧ t = eF n arcs L e) := by
   have h1 := HF.out
   have h2 := HT.out
   cases b
   ·exact .inr ⟨h1.symm, h2.symm⟩
   ·exact .inl ⟨h1.symm, h2.symm⟩
  have HAT : Aside0 (atS n arcs L ws f t = W) := ⟨by
   have h1 := HF.out
   have h2 := HT.out
   rw [← HW.out, ← h1, ← h2]
   cases b
   ·exact (hk.wt_dn he).symm
   ·exact (hk.wt_up he).symm⟩
  have hsm := hk.wt_small hwl hwr hn he hw
  have hW0 := (wtS_bound (n := n) (arcs := arcs) (L := L) (ws := ws) (b := !b) e).1
  have hSP := hk.at_spec (ws := ws) he hwl huv
  rw [HAT.out] at hSP
  have hLO : ∀ y ∈ lowerS (hierS n arcs L) (e : Int), ∃ e1 e2 x1 : Nat, x1 < x ∧ e1 < eL n arcs L ∧ e2 < eL n arcs L ∧ eF n arcs L e1 = y ∧ eT n arcs L e1 = f ∧ eF n arcs L e2 = y ∧ eT n arcs L e2 = t ∧ y = L.getD x1 0 := by
   intro y hy
   obtain ⟨⟨a, ha, a0, a1⟩, c, hc, c0, c1⟩ := (hk.mem_low he y).1 hy
   obtain ⟨x1, x2, k1, k2, k3, k4, _⟩ := hk.edge_rk ha
   have e2 : x2 = x := ord_inj hk.ord k2 hxn (by rw [← k4, ← hex]; exact a1)
   have ey : y = L.getD x1 0 := by rw [← k3]; exact a0.symm
   rcases huv with ⟨u1, u2⟩ | ⟨u1, u2⟩
   ·exact ⟨a, c, x1, by omega, ha, hc, a0, a1.trans u1.symm, c0, c1.trans u2.symm, ey⟩
   ·exact ⟨c, a, x1, by omega, hc, ha, c0, c1.trans u1.symm, a0, a1.trans u2.symm, ey⟩
  have HFX : UnpF n arcs L ws x e f t W := ⟨⟨hSP.1, hSP.2.2⟩, hLO, amTo_ok arcs ws arcs.length, fun e1 e2 h1 h2 => ⟨(hk.wt_dn h1).symm, (hk.wt_up h2).symm⟩, fun i hi => hk.ne hi, fun u v => atS_bound u v, by
   unfold lowerS
   split
   ·exact Nat.le_trans (List.length_filter_le _ _) (hk.capd (by omega) _)
   ·simp⟩
  have HLOW : UnpL p n e arcs L := fun W1 hW => Hier_Lower.calls hW hk.ok hk.ends (hk.capd (by omega)) (e : Int)
  rw [HF.out, HT.out, HW.out]
  rw [HW.out] at hw hsm hW0
  obtain ⟨eA, ec, ma, wA, wc, h1, h2, h3, h4, h5⟩ := (hU.below hb).out
  have HX := Aside0.mk h1
  have HE := Aside0.mk h2
  have HMA := Aside0.mk h3
  have HWS := Aside0.mk h4
  have HM := Aside0.mk h5
  have hsd := sdS_len n arcs L ws
  have HS1 := Aside0.mk (sideS_in (l := (sdS n arcs L ws).1) (j := e) (by rw [hsd.1]; exact he))
  have HS2 := Aside0.mk (sideS_in (l := (sdS n arcs L ws).2) (j := e) (by rw [hsd.2]; exact he))
  obtain ⟨eb, eo, heA, ex0, ex1⟩ := edge_cells h2 he'
  subst heA
  obtain ⟨pA, pc, rfl⟩ := Kd.R_slice hP
  have HP := Aside0.mk hP
  have hpw : 1 ≤ 2 ^ x := Nat.one_le_two_pow
  have hWm : W < 1152921504606846976 := hw
  have hkk : Aside0 (x < n) := ⟨hxn⟩
  have c0 := (blk_cell h1 0).trans rfl
  have c1 := (blk_cell h1 1).trans rfl
  clear hk hb hU hwl hwr h1 h2 h3 h4 h5 hsd huv hSP hLO hP hex hxn hw ih
  cases b with
  | false =>
   have HFe : Aside0 (((hierS n arcs L).edges.getD e z58).f1 = f) := HF
   have HTe : Aside0 (((hierS n arcs L).edges.getD e z58).f0 = t) := HT
   have HWe : Aside0 ((sdS n arcs L ws).2.getD e 0 = W) := HW
   rw [HFe.out] at ex1
   rw [HTe.out] at ex0
   clear HF HT HW HFe HTe
   go_enter Try.func52, Try.ntmps52
   go_upto_region 1 with (fail)
   refine s_ (fun w' => w'.cell? ⟨pu, 0, none⟩ = some (.pointer (some ⟨q, 0, none⟩)) ∧ w'.cell? ⟨pu, 1, none⟩ = some (.slice (some ⟨eb, eo, none⟩) (hierS n arcs L).edges.length ec) ∧ w'.cell? ⟨eb, eo + e * 2, none⟩ = some (.int .i64 t) ∧ w'.cell? ⟨eb, eo + e * 2 + 1, none⟩ = some (.int .i64 f)) [] ⟨c0, c1, ex0, ex1⟩ (fun hHeld => ?_)
   have hbd : Below w.heap.size w w.drew := below_drew (Below.refl _ _)
   replace HX := Aside0.mk (blk_below HX.out hbd)
   replace HMA := Aside0.mk (HMA.out.below hbd)
   replace HWS := Aside0.mk (Kd.C_below HWS.out hbd)
   replace HM := Aside0.mk (HM.out.below hbd)
   replace HP := Aside0.mk (Kd.R_below HP.out hbd)
   replace HB := Aside0.mk (below_then HB.out HB.out.size hbd)
   generalize w.drew = w1 at HX HMA HWS HM HP HB hHeld ⊢
   clear hbd c0 c1 ex0 ex1
   have HRD := Aside0.mk (HM.out.reads HK.out (by omega))
   refine p_ 0 22 ?_
   refine p_ 1 23 ?_
   refine p_ 2 24 ?_
   refine t4_ 3 25 hHeld ?_
   refine p_ 4 26 ?_
   refine p_ 5 27 ?_
   refine p_ 6 28 ?_
   refine t4_ 7 29 hHeld ?_
   refine p_ 8 30 ?_
   refine p_ 9 31 ?_
   refine p_ 10 32 ?_
   refine t4_ 11 33 hHeld ?_
   refine p_ 12 34 ?_
   refine p_ 13 35 ?_
   refine p_ 14 36 ?_
   refine t4_ 15 37 hHeld ?_
   refine p_ 16 38 ?_
   refine p_ 17 39 ?_
   refine p_ 18 40 ?_
   refine t4_ 19 41 hHeld ?_
   refine p_ 20 42 ?_
   refine o_ 21 43 (fun K hK => ?_)
   refine goes_ Try.func60 (by kernel_rfl) rfl #[.pointer (some ⟨q, 0, none⟩), .int .i64 (e : Int)] (by rfl) rfl rfl byL ?_
   refine (Metric_Up.calls HRD.out (e : Int)).mono ?_
   rintro ev w1b ⟨rfl, rfl⟩
   refine ⟨_, rfl, ?_⟩
   refine hK.out _ _ hHeld (fun hHeld => ?_)
   clear hK K
   refine n_ 43 ?_
   refine p_ 22 9 ?_
   refine p_ 23 10 ?_
   refine p_ 24 11 ?_
   refine d_ ?_
   clear hHeld
   clear HS1
   have c0 := (blk_cell HX.out 0).trans rfl
   have c2 := (blk_cell HX.out 2).trans rfl
   have c3 := (blk_cell HX.out 3).trans rfl
   go_wp2_with (fail)
   refine (Metric_Down.calls HRD.out (e : Int)).mono ?_
   rintro ev w1c ⟨rfl, rfl⟩
   rw [HS2.out, HWe.out]
   go_upto_region 4 with (fail)
   by_cases hit : ∃ j : Nat, mget (amTo arcs ws arcs.length) (f, t) = some (j : Int) ∧ ws.getD j 0 = W
   ·obtain ⟨j, hj1, hj2⟩ := hit
    obtain ⟨j', hj', hjj, hky, hjw⟩ := HFX.am.1 _ _ hj1
    obtain rfl : j = j' := by omega
    have HJ1 := Aside0.mk hj1
    have hjl : j < ws.length := by rw [HWL.out]; exact hj'
    obtain ⟨wb, wo, hwA, hwk⟩ := cells_all HWS.out j hjl
    subst hwA
    rw [hj2] at hwk
    have HWK : Aside0 (WalkL arcs ws f t [(j : Int)] W) := ⟨by
     have h1 := congrArg Prod.fst hky
     have h2 := congrArg Prod.snd hky
     have h3 := WalkL.one (ws := ws) j hj' h1 h2 hjw
     rw [hj2] at h3
     exact h3⟩
    clear hj1 hj2 hjj hky
    go_upto_region 5 with (refine wp_lookup_map pKey Try.underlying98 0 zeroI_ rfl _ _ true rfl HMA.out (f, t) rfl rfl (.tuple #[.int .i64 (j : Int), .bool true]) (by rw [HJ1.out]; rfl) ?_)
    go_upto_region 6 with (fail)
    go_wp2_with (
     refine Kd.R_append (Kd.int .i64) (w0 := W0) W0.heap.size (by rfl) (.tmp 77) (.tmp 79) 25 3 (.int .i64 0) 8 rfl Try.underlying25 info3 rfl (by decide) (by omega) (.slice pA P.length pc) P (j : Int) [.int .i64 (j : Int)] (fun _ => True) (fun _ => False) rfl rfl ?aP (fun _ hk => hk.elim) ?aF ?aO ?aB ?aS ?aL ?_
     (case aP => exact rfl)
     (case aF => exact (fun _ _ => trivial))
     (case aO => exact Kd.R_mono HP.out (fun _ _ => trivial))
     (case aB => exact HB.out)
     (case aS => exact HB.out.size)
     (case aL => omega)
     intro v9 w9 ho hb hg hat
     have HO9 := Aside0.mk ho
     have HB9 := Aside0.mk hb
     clear ho hb hg hat)
    obtain ⟨A9, c9, rfl⟩ := Kd.R_slice HO9.out
    go_ret
    exact ⟨_, [(j : Int)], rfl, HB9.out, HO9.out, HWK.out, hpw⟩
   ·have HEXY : UnpY n arcs L ws e f t W := ⟨by
     rcases HFX.sp.2 hWm with ⟨j, hj, j0, j1, jw, jn⟩ | h2
     ·exfalso
      obtain ⟨v, hv1, hv2⟩ := HFX.am.2 j hj jw
      obtain ⟨j', hj', hjj, hky, hjw⟩ := HFX.am.1 _ _ hv1
      have hvj : v = j' := by omega
      subst hvj
      have hkj : amKey arcs j = (f, t) := by unfold amKey; rw [j0, j1]
      rw [hkj] at hv1 hky
      have h1 := congrArg Prod.fst hky
      have h2 := congrArg Prod.snd hky
      have h3 := HFX.sp.1 v hj' h1 h2 hjw
      exact hit ⟨v, hv1, by omega⟩
     ·exact h2⟩
    have hcase : mget (amTo arcs ws arcs.length) (f, t) = none ∨ ∃ (j : Nat) (wj : Int), mget (amTo arcs ws arcs.length) (f, t) = some (j : Int) ∧ j < ws.length ∧ ws.getD j 0 = wj ∧ wj ≠ W := by
     cases hg : mget (amTo arcs ws arcs.length) (f, t) with
     | none => exact .inl rfl
     | some a =>
      obtain ⟨j', hj', hjj, _, _⟩ := HFX.am.1 _ _ hg
      subst hjj
      exact .inr ⟨j', _, rfl, by rw [HWL.out]; exact hj', rfl, fun h2 => hit ⟨j', hg, h2⟩⟩
    clear hit
    rcases hcase with hc | ⟨j, wj, hc, hjl, hj2, hne⟩
    ·have HC0 := Aside0.mk hc
     clear hc
     go_upto_region 5 with (refine wp_lookup_map pKey Try.underlying98 0 zeroI_ rfl _ _ true rfl HMA.out (f, t) rfl rfl (.tuple #[.int .i64 0, .bool false]) (by rw [HC0.out]; rfl) ?_)
     go_upto_region 7 with (fail)
     clear c2 c3 HWS HMA
     go_wp2_with (fail)
     refine (Metric_Hier.calls HRD.out).mono ?_
     rintro ev w2b ⟨rfl, rfl⟩
     go_wp2_with (fail)
     refine (HLOW _ HM.out.hier).mono ?_
     rintro ev w2 ⟨lv, rfl, hr2, hb2⟩
     obtain ⟨lA, lc, rfl⟩ := Kd.R_slice hr2
     have HLC := Aside0.mk (Kd.R_reads' hr2).2.2
     obtain ⟨ll, HLL⟩ : ∃ ll, Aside0 (lowerS (hierS n arcs L) (e : Int) = ll) := ⟨_, ⟨rfl⟩⟩
     rw [HLL.out] at HLC ⊢
     have hlln : ll.length ≤ 1000000000 := by rw [← HLL.out]; exact HFX.ll
     have HP2 := Aside0.mk (Kd.R_below HP.out hb2)
     have HB2 := Aside0.mk (below_then HB.out HB.out.size hb2)
     clear hr2 hb2 c0
     go_wp2_with (fail)
     go_loopw [89] (fun i wr => ∃ (j : Nat), i = .int .i64 (j : Int) ∧ j ≤ ll.length ∧ Aside0 (Below w2.heap.size w2 wr) ∧ UnpN n arcs L ws ll f t W j) (fun i _ => ll.length - (intOf i).toNat)
     case atStart => exact ⟨0, rfl, Nat.zero_le _, ⟨Below.refl _ _⟩, ⟨fun i hi => by omega⟩⟩
     case round =>
      obtain ⟨j, rfl, hj, HBL, HNO⟩ := hrel
      by_cases hjl : j < ll.length
      ·obtain ⟨lb, lo, hlA, hlk⟩ := cells_all (Kd.C_below HLC.out HBL.out) j hjl
       subst hlA
       obtain ⟨y, HY⟩ : ∃ y, Aside0 (ll.getD j 0 = y) := ⟨_, ⟨rfl⟩⟩
       rw [HY.out] at hlk
       obtain ⟨e1, e2, x1, hx1, he1, he2, q1, q2, q3, q4, q5⟩ := HFX.lo y (by rw [HLL.out, ← HY.out, getD_at hjl]; exact List.getElem_mem hjl)
       have hBr := below_then HB2.out HB2.out.size HBL.out
       have HBr := Aside0.mk hBr
       have HUr := Aside0.mk (HU.out.below hBr)
       have HPr := Aside0.mk (Kd.R_below HP2.out HBL.out)
       have HQ : UnpE n arcs L e1 e2 x1 y f t := ⟨he1, he2, q1, q2, q3, q4, q5⟩
       have hb1 := HFX.bd f y
       have hb2 := HFX.bd y t
       have hd1 : decide (eF n arcs L e1 = f) = false := decide_eq_false (by rw [← q2]; exact HFX.ne e1 he1)
       have hd2 : decide (eF n arcs L e2 = y) = true := decide_eq_true q3
       have HD1 := Aside0.mk hd1
       have HD2 := Aside0.mk hd2
       clear hBr hd1 hd2 q1 q2 q3 q4 q5 he1 he2
       go_wp2_with (fail)
       refine (query_weight.calls HK.out (by omega) HUr.out (u := f) (v := y) HQ.h1 (.inr ⟨HQ.q1, HQ.q2⟩)).mono ?_
       rintro ev w3 ⟨rfl, hb3⟩
       rw [HD1.out]
       replace HBL := Aside0.mk (below_then HBL.out HBL.out.size hb3)
       replace HBr := Aside0.mk (below_then HBr.out HBr.out.size hb3)
       replace HUr := Aside0.mk (HUr.out.below hb3)
       replace HPr := Aside0.mk (Kd.R_below HPr.out hb3)
       clear hb3 hlk
       go_wp2_with (fail)
       refine (query_weight.calls HK.out (by omega) HUr.out (u := y) (v := t) HQ.h2 (.inl ⟨HQ.q3, HQ.q4⟩)).mono ?_
       rintro ev w4 ⟨rfl, hb4⟩
       rw [HD2.out]
       replace HBL := Aside0.mk (below_then HBL.out HBL.out.size hb4)
       replace HBr := Aside0.mk (below_then HBr.out HBr.out.size hb4)
       replace HPr := Aside0.mk (Kd.R_below HPr.out hb4)
       clear hb4 HUr
       obtain ⟨A, HAA⟩ : ∃ A, Aside0 (atS n arcs L ws f y = A) := ⟨_, ⟨rfl⟩⟩
       obtain ⟨B, HBB⟩ : ∃ B, Aside0 (atS n arcs L ws y t = B) := ⟨_, ⟨rfl⟩⟩
       rw [HAA.out] at hb1 ⊢
       rw [HBB.out] at hb2 ⊢
       have hA0 := hb1.1
       have hB0 := hb2.1
       have hA1 : A ≤ 1152921504606846976 := hb1.2
       have hB1 : B ≤ 1152921504606846976 := hb2.2
       clear hb1 hb2
       by_cases hyes : A < 1152921504606846976 ∧ B < 1152921504606846976 ∧ A + B = W
       ·obtain ⟨y1, y2, y3⟩ := hyes
        have HW1 : Aside0 (wtS n arcs L ws true e1 = A) := ⟨by rw [← (HFX.wt e1 e2 HQ.h1 HQ.h2).1, HQ.q1, HQ.q2, HAA.out]⟩
        have HW2 : Aside0 (wtS n arcs L ws false e2 = B) := ⟨by rw [← (HFX.wt e1 e2 HQ.h1 HQ.h2).2, HQ.q3, HQ.q4, HBB.out]⟩
        have hpx : 2 ^ x1 + 2 ^ x1 ≤ 2 ^ x := by
         have h1 : 2 ^ (x1 + 1) ≤ 2 ^ x := Nat.pow_le_pow_right (by decide) (by omega)
         rw [Nat.pow_succ] at h1
         omega
        have y3b : A + B = W := y3
        subst y3b
        go_wp2_with (fail)
        refine ((IH.out x1 hx1).ap (w := w4) (e := e1) false (pv := .slice pA P.length pc) (P := P) (Nat.lt_trans hx1 hkk.out) HBr.out HQ.h1 (by rw [HQ.q1]; exact HQ.q5) (by show wtS n arcs L ws true e1 < mInf; rw [HW1.out]; exact y1) HPr.out (by omega)).mono ?_
        rintro ev w5 ⟨v1, l1, rfl, hb5, hr5, hwk1, hll1⟩
        obtain ⟨A5, c5, rfl⟩ := Kd.R_slice hr5
        have HR5 := Aside0.mk hr5
        have HB5 := Aside0.mk hb5
        have HK1 : Aside0 (WalkL arcs ws f y l1 A) := ⟨by
         have h1 : WalkL arcs ws (eT n arcs L e1) (eF n arcs L e1) l1 (wtS n arcs L ws true e1) := hwk1
         rw [HW1.out, HQ.q1, HQ.q2] at h1
         exact h1⟩
        clear hr5 hb5 hwk1
        obtain ⟨P1, HP1⟩ : ∃ P1, Aside0 (P ++ l1 = P1) := ⟨_, ⟨rfl⟩⟩
        have HP1L : Aside0 (P1.length = P.length + l1.length) := ⟨by rw [← HP1.out, List.length_append]⟩
        rw [HP1.out] at HR5 ⊢
        go_wp2_with (fail)
        refine ((IH.out x1 hx1).ap (w := w5) (e := e2) true (pv := .slice A5 P1.length c5) (P := P1) (Nat.lt_trans hx1 hkk.out) HB5.out HQ.h2 (by rw [HQ.q3]; exact HQ.q5) (by show wtS n arcs L ws false e2 < mInf; rw [HW2.out]; exact y2) HR5.out (by have := HP1L.out; omega)).mono ?_
        rintro ev w6 ⟨v2, l2, rfl, hb6, hr6, hwk2, hll2⟩
        obtain ⟨A6, c6, rfl⟩ := Kd.R_slice hr6
        have HK2 : Aside0 (WalkL arcs ws y t l2 B) := ⟨by
         have h1 : WalkL arcs ws (eF n arcs L e2) (eT n arcs L e2) l2 (wtS n arcs L ws false e2) := hwk2
         rw [HW2.out, HQ.q3, HQ.q4] at h1
         exact h1⟩
        have HR6 := Aside0.mk hr6
        have HB6 := Aside0.mk hb6
        clear hr6 hb6 hwk2
        go_wp2_with (fail)
        go_ret
        exact ⟨_, l1 ++ l2, rfl, HB6.out, by rw [← List.append_assoc, HP1.out]; have h9 := HR6.out; rw [List.length_append] at h9; exact h9, HK1.out.append HK2.out, by rw [List.length_append]; omega⟩
       ·have HNO2 : UnpN n arcs L ws ll f t W (j + 1) := ⟨fun i hi => by
         by_cases hij : i = j
         ·subst hij
          rw [HY.out, HAA.out, HBB.out] 
          intro h2
          have h3 : over A B = if A = mInf ∨ B = mInf then mInf else A + B := rfl
          rw [h2] at h3
          have hm : mInf = 1152921504606846976 := rfl
          split at h3
          ·omega
          ·exact hyes ⟨by omega, by omega, h3.symm⟩
         ·exact HNO.out i (by omega)⟩
        by_cases hA : A < 1152921504606846976
        ·by_cases hB : B < 1152921504606846976
         ·have hne2 : ¬ (A + B = W) := fun h => hyes ⟨hA, hB, h⟩
          clear hyes
          go_wp2_with (fail)
          go_roundw
          case rel => exact ⟨j + 1, by go_num, by omega, HBL, HNO2⟩
          case measure => simp [intOf]; omega
         ·clear hyes
          go_wp2_with (fail)
          go_roundw
          case rel => exact ⟨j + 1, by go_num, by omega, HBL, HNO2⟩
          case measure => simp [intOf]; omega
        ·clear hyes
         go_wp2_with (fail)
         go_roundw
         case rel => exact ⟨j + 1, by go_num, by omega, HBL, HNO2⟩
         case measure => simp [intOf]; omega
      ·exfalso
       obtain ⟨y, hy, hy2⟩ := HEXY.out
       rw [HLL.out] at hy
       obtain ⟨i, hi, rfl⟩ := List.getElem_of_mem hy
       refine HNO.out i (by omega) ?_
       rw [getD_at hi]
       exact hy2
    ·have HC0 := Aside0.mk hc
     obtain ⟨wb, wo, hwA, hwk⟩ := cells_all HWS.out j hjl
     subst hwA
     rw [hj2] at hwk
     clear hc hj2
     go_upto_region 5 with (refine wp_lookup_map pKey Try.underlying98 0 zeroI_ rfl _ _ true rfl HMA.out (f, t) rfl rfl (.tuple #[.int .i64 (j : Int), .bool true]) (by rw [HC0.out]; rfl) ?_)
     go_upto_region 7 with (fail)
     clear hwk hne
     clear c2 c3 HWS HMA
     go_wp2_with (fail)
     refine (Metric_Hier.calls HRD.out).mono ?_
     rintro ev w2b ⟨rfl, rfl⟩
     go_wp2_with (fail)
     refine (HLOW _ HM.out.hier).mono ?_
     rintro ev w2 ⟨lv, rfl, hr2, hb2⟩
     obtain ⟨lA, lc, rfl⟩ := Kd.R_slice hr2
     have HLC := Aside0.mk (Kd.R_reads' hr2).2.2
     obtain ⟨ll, HLL⟩ : ∃ ll, Aside0 (lowerS (hierS n arcs L) (e : Int) = ll) := ⟨_, ⟨rfl⟩⟩
     rw [HLL.out] at HLC ⊢
     have hlln : ll.length ≤ 1000000000 := by rw [← HLL.out]; exact HFX.ll
     have HP2 := Aside0.mk (Kd.R_below HP.out hb2)
     have HB2 := Aside0.mk (below_then HB.out HB.out.size hb2)
     clear hr2 hb2 c0
     go_wp2_with (fail)
     go_loopw [89] (fun i wr => ∃ (j : Nat), i = .int .i64 (j : Int) ∧ j ≤ ll.length ∧ Aside0 (Below w2.heap.size w2 wr) ∧ UnpN n arcs L ws ll f t W j) (fun i _ => ll.length - (intOf i).toNat)
     case atStart => exact ⟨0, rfl, Nat.zero_le _, ⟨Below.refl _ _⟩, ⟨fun i hi => by omega⟩⟩
     case round =>
      obtain ⟨j, rfl, hj, HBL, HNO⟩ := hrel
      by_cases hjl : j < ll.length
      ·obtain ⟨lb, lo, hlA, hlk⟩ := cells_all (Kd.C_below HLC.out HBL.out) j hjl
       subst hlA
       obtain ⟨y, HY⟩ : ∃ y, Aside0 (ll.getD j 0 = y) := ⟨_, ⟨rfl⟩⟩
       rw [HY.out] at hlk
       obtain ⟨e1, e2, x1, hx1, he1, he2, q1, q2, q3, q4, q5⟩ := HFX.lo y (by rw [HLL.out, ← HY.out, getD_at hjl]; exact List.getElem_mem hjl)
       have hBr := below_then HB2.out HB2.out.size HBL.out
       have HBr := Aside0.mk hBr
       have HUr := Aside0.mk (HU.out.below hBr)
       have HPr := Aside0.mk (Kd.R_below HP2.out HBL.out)
       have HQ : UnpE n arcs L e1 e2 x1 y f t := ⟨he1, he2, q1, q2, q3, q4, q5⟩
       have hb1 := HFX.bd f y
       have hb2 := HFX.bd y t
       have hd1 : decide (eF n arcs L e1 = f) = false := decide_eq_false (by rw [← q2]; exact HFX.ne e1 he1)
       have hd2 : decide (eF n arcs L e2 = y) = true := decide_eq_true q3
       have HD1 := Aside0.mk hd1
       have HD2 := Aside0.mk hd2
       clear hBr hd1 hd2 q1 q2 q3 q4 q5 he1 he2
       go_wp2_with (fail)
       refine (query_weight.calls HK.out (by omega) HUr.out (u := f) (v := y) HQ.h1 (.inr ⟨HQ.q1, HQ.q2⟩)).mono ?_
       rintro ev w3 ⟨rfl, hb3⟩
       rw [HD1.out]
       replace HBL := Aside0.mk (below_then HBL.out HBL.out.size hb3)
       replace HBr := Aside0.mk (below_then HBr.out HBr.out.size hb3)
       replace HUr := Aside0.mk (HUr.out.below hb3)
       replace HPr := Aside0.mk (Kd.R_below HPr.out hb3)
       clear hb3 hlk
       go_wp2_with (fail)
       refine (query_weight.calls HK.out (by omega) HUr.out (u := y) (v := t) HQ.h2 (.inl ⟨HQ.q3, HQ.q4⟩)).mono ?_
       rintro ev w4 ⟨rfl, hb4⟩
       rw [HD2.out]
       replace HBL := Aside0.mk (below_then HBL.out HBL.out.size hb4)
       replace HBr := Aside0.mk (below_then HBr.out HBr.out.size hb4)
       replace HPr := Aside0.mk (Kd.R_below HPr.out hb4)
       clear hb4 HUr
       obtain ⟨A, HAA⟩ : ∃ A, Aside0 (atS n arcs L ws f y = A) := ⟨_, ⟨rfl⟩⟩
       obtain ⟨B, HBB⟩ : ∃ B, Aside0 (atS n arcs L ws y t = B) := ⟨_, ⟨rfl⟩⟩
       rw [HAA.out] at hb1 ⊢
       rw [HBB.out] at hb2 ⊢
       have hA0 := hb1.1
       have hB0 := hb2.1
       have hA1 : A ≤ 1152921504606846976 := hb1.2
       have hB1 : B ≤ 1152921504606846976 := hb2.2
       clear hb1 hb2
       by_cases hyes : A < 1152921504606846976 ∧ B < 1152921504606846976 ∧ A + B = W
       ·obtain ⟨y1, y2, y3⟩ := hyes
        have HW1 : Aside0 (wtS n arcs L ws true e1 = A) := ⟨by rw [← (HFX.wt e1 e2 HQ.h1 HQ.h2).1, HQ.q1, HQ.q2, HAA.out]⟩
        have HW2 : Aside0 (wtS n arcs L ws false e2 = B) := ⟨by rw [← (HFX.wt e1 e2 HQ.h1 HQ.h2).2, HQ.q3, HQ.q4, HBB.out]⟩
        have hpx : 2 ^ x1 + 2 ^ x1 ≤ 2 ^ x := by
         have h1 : 2 ^ (x1 + 1) ≤ 2 ^ x := Nat.pow_le_pow_right (by decide) (by omega)
         rw [Nat.pow_succ] at h1
         omega
        have y3b : A + B = W := y3
        subst y3b
        go_wp2_with (fail)
        refine ((IH.out x1 hx1).ap (w := w4) (e := e1) false (pv := .slice pA P.length pc) (P := P) (Nat.lt_trans hx1 hkk.out) HBr.out HQ.h1 (by rw [HQ.q1]; exact HQ.q5) (by show wtS n arcs L ws true e1 < mInf; rw [HW1.out]; exact y1) HPr.out (by omega)).mono ?_
        rintro ev w5 ⟨v1, l1, rfl, hb5, hr5, hwk1, hll1⟩
        obtain ⟨A5, c5, rfl⟩ := Kd.R_slice hr5
        have HR5 := Aside0.mk hr5
        have HB5 := Aside0.mk hb5
        have HK1 : Aside0 (WalkL arcs ws f y l1 A) := ⟨by
         have h1 : WalkL arcs ws (eT n arcs L e1) (eF n arcs L e1) l1 (wtS n arcs L ws true e1) := hwk1
         rw [HW1.out, HQ.q1, HQ.q2] at h1
         exact h1⟩
        clear hr5 hb5 hwk1
        obtain ⟨P1, HP1⟩ : ∃ P1, Aside0 (P ++ l1 = P1) := ⟨_, ⟨rfl⟩⟩
        have HP1L : Aside0 (P1.length = P.length + l1.length) := ⟨by rw [← HP1.out, List.length_append]⟩
        rw [HP1.out] at HR5 ⊢
        go_wp2_with (fail)
        refine ((IH.out x1 hx1).ap (w := w5) (e := e2) true (pv := .slice A5 P1.length c5) (P := P1) (Nat.lt_trans hx1 hkk.out) HB5.out HQ.h2 (by rw [HQ.q3]; exact HQ.q5) (by show wtS n arcs L ws false e2 < mInf; rw [HW2.out]; exact y2) HR5.out (by have := HP1L.out; omega)).mono ?_
        rintro ev w6 ⟨v2, l2, rfl, hb6, hr6, hwk2, hll2⟩
        obtain ⟨A6, c6, rfl⟩ := Kd.R_slice hr6
        have HK2 : Aside0 (WalkL arcs ws y t l2 B) := ⟨by
         have h1 : WalkL arcs ws (eF n arcs L e2) (eT n arcs L e2) l2 (wtS n arcs L ws false e2) := hwk2
         rw [HW2.out, HQ.q3, HQ.q4] at h1
         exact h1⟩
        have HR6 := Aside0.mk hr6
        have HB6 := Aside0.mk hb6
        clear hr6 hb6 hwk2
        go_wp2_with (fail)
        go_ret
        exact ⟨_, l1 ++ l2, rfl, HB6.out, by rw [← List.append_assoc, HP1.out]; have h9 := HR6.out; rw [List.length_append] at h9; exact h9, HK1.out.append HK2.out, by rw [List.length_append]; omega⟩
       ·have HNO2 : UnpN n arcs L ws ll f t W (j + 1) := ⟨fun i hi => by
         by_cases hij : i = j
         ·subst hij
          rw [HY.out, HAA.out, HBB.out] 
          intro h2
          have h3 : over A B = if A = mInf ∨ B = mInf then mInf else A + B := rfl
          rw [h2] at h3
          have hm : mInf = 1152921504606846976 := rfl
          split at h3
          ·omega
          ·exact hyes ⟨by omega, by omega, h3.symm⟩
         ·exact HNO.out i (by omega)⟩
        by_cases hA : A < 1152921504606846976
        ·by_cases hB : B < 1152921504606846976
         ·have hne2 : ¬ (A + B = W) := fun h => hyes ⟨hA, hB, h⟩
          clear hyes
          go_wp2_with (fail)
          go_roundw
          case rel => exact ⟨j + 1, by go_num, by omega, HBL, HNO2⟩
          case measure => simp [intOf]; omega
         ·clear hyes
          go_wp2_with (fail)
          go_roundw
          case rel => exact ⟨j + 1, by go_num, by omega, HBL, HNO2⟩
          case measure => simp [intOf]; omega
        ·clear hyes
         go_wp2_with (fail)
         go_roundw
         case rel => exact ⟨j + 1, by go_num, by omega, HBL, HNO2⟩
         case measure => simp [intOf]; omega
      ·exfalso
       obtain ⟨y, hy, hy2⟩ := HEXY.out
       rw [HLL.out] at hy
       obtain ⟨i, hi, rfl⟩ := List.getElem_of_mem hy
       refine HNO.out i (by omega) ?_
       rw [getD_at hi]
       exact hy2
  | true =>
   have HFe : Aside0 (((hierS n arcs L).edges.getD e z58).f0 = f) := HF
   have HTe : Aside0 (((hierS n arcs L).edges.getD e z58).f1 = t) := HT
   have HWe : Aside0 ((sdS n arcs L ws).1.getD e 0 = W) := HW
   rw [HFe.out] at ex0
   rw [HTe.out] at ex1
   clear HF HT HW HFe HTe
   go_enter Try.func52, Try.ntmps52
   go_upto_region 1 with (fail)
   refine s_ (fun w' => w'.cell? ⟨pu, 0, none⟩ = some (.pointer (some ⟨q, 0, none⟩)) ∧ w'.cell? ⟨pu, 1, none⟩ = some (.slice (some ⟨eb, eo, none⟩) (hierS n arcs L).edges.length ec) ∧ w'.cell? ⟨eb, eo + e * 2, none⟩ = some (.int .i64 f) ∧ w'.cell? ⟨eb, eo + e * 2 + 1, none⟩ = some (.int .i64 t)) [] ⟨c0, c1, ex0, ex1⟩ (fun hHeld => ?_)
   have hbd : Below w.heap.size w w.drew := below_drew (Below.refl _ _)
   replace HX := Aside0.mk (blk_below HX.out hbd)
   replace HMA := Aside0.mk (HMA.out.below hbd)
   replace HWS := Aside0.mk (Kd.C_below HWS.out hbd)
   replace HM := Aside0.mk (HM.out.below hbd)
   replace HP := Aside0.mk (Kd.R_below HP.out hbd)
   replace HB := Aside0.mk (below_then HB.out HB.out.size hbd)
   generalize w.drew = w1 at HX HMA HWS HM HP HB hHeld ⊢
   clear hbd c0 c1 ex0 ex1
   have HRD := Aside0.mk (HM.out.reads HK.out (by omega))
   refine p_ 0 22 ?_
   refine p_ 1 23 ?_
   refine p_ 2 24 ?_
   refine t4_ 3 25 hHeld ?_
   refine p_ 4 26 ?_
   refine p_ 5 27 ?_
   refine p_ 6 28 ?_
   refine t4_ 7 29 hHeld ?_
   refine p_ 8 30 ?_
   refine p_ 9 31 ?_
   refine p_ 10 32 ?_
   refine t4_ 11 33 hHeld ?_
   refine p_ 12 34 ?_
   refine p_ 13 35 ?_
   refine p_ 14 36 ?_
   refine t4_ 15 37 hHeld ?_
   refine p_ 16 38 ?_
   refine p_ 17 39 ?_
   refine p_ 18 40 ?_
   refine t4_ 19 41 hHeld ?_
   refine p_ 20 42 ?_
   refine o_ 21 43 (fun K hK => ?_)
   refine goes_ Try.func60 (by kernel_rfl) rfl #[.pointer (some ⟨q, 0, none⟩), .int .i64 (e : Int)] (by rfl) rfl rfl byL ?_
   refine (Metric_Up.calls HRD.out (e : Int)).mono ?_
   rintro ev w1b ⟨rfl, rfl⟩
   refine ⟨_, rfl, ?_⟩
   refine hK.out _ _ hHeld (fun hHeld => ?_)
   clear hK K
   refine n_ 43 ?_
   refine p_ 22 9 ?_
   refine p_ 23 10 ?_
   refine p_ 24 11 ?_
   refine d_ ?_
   clear hHeld
   rw [HS1.out, HWe.out]
   have c0 := (blk_cell HX.out 0).trans rfl
   have c2 := (blk_cell HX.out 2).trans rfl
   have c3 := (blk_cell HX.out 3).trans rfl
   go_upto_region 4 with (fail)
   by_cases hit : ∃ j : Nat, mget (amTo arcs ws arcs.length) (f, t) = some (j : Int) ∧ ws.getD j 0 = W
   ·obtain ⟨j, hj1, hj2⟩ := hit
    obtain ⟨j', hj', hjj, hky, hjw⟩ := HFX.am.1 _ _ hj1
    obtain rfl : j = j' := by omega
    have HJ1 := Aside0.mk hj1
    have hjl : j < ws.length := by rw [HWL.out]; exact hj'
    obtain ⟨wb, wo, hwA, hwk⟩ := cells_all HWS.out j hjl
    subst hwA
    rw [hj2] at hwk
    have HWK : Aside0 (WalkL arcs ws f t [(j : Int)] W) := ⟨by
     have h1 := congrArg Prod.fst hky
     have h2 := congrArg Prod.snd hky
     have h3 := WalkL.one (ws := ws) j hj' h1 h2 hjw
     rw [hj2] at h3
     exact h3⟩
    clear hj1 hj2 hjj hky
    go_upto_region 5 with (refine wp_lookup_map pKey Try.underlying98 0 zeroI_ rfl _ _ true rfl HMA.out (f, t) rfl rfl (.tuple #[.int .i64 (j : Int), .bool true]) (by rw [HJ1.out]; rfl) ?_)
    go_upto_region 6 with (fail)
    go_wp2_with (
     refine Kd.R_append (Kd.int .i64) (w0 := W0) W0.heap.size (by rfl) (.tmp 77) (.tmp 79) 25 3 (.int .i64 0) 8 rfl Try.underlying25 info3 rfl (by decide) (by omega) (.slice pA P.length pc) P (j : Int) [.int .i64 (j : Int)] (fun _ => True) (fun _ => False) rfl rfl ?aP (fun _ hk => hk.elim) ?aF ?aO ?aB ?aS ?aL ?_
     (case aP => exact rfl)
     (case aF => exact (fun _ _ => trivial))
     (case aO => exact Kd.R_mono HP.out (fun _ _ => trivial))
     (case aB => exact HB.out)
     (case aS => exact HB.out.size)
     (case aL => omega)
     intro v9 w9 ho hb hg hat
     have HO9 := Aside0.mk ho
     have HB9 := Aside0.mk hb
     clear ho hb hg hat)
    obtain ⟨A9, c9, rfl⟩ := Kd.R_slice HO9.out
    go_ret
    exact ⟨_, [(j : Int)], rfl, HB9.out, HO9.out, HWK.out, hpw⟩
   ·have HEXY : UnpY n arcs L ws e f t W := ⟨by
     rcases HFX.sp.2 hWm with ⟨j, hj, j0, j1, jw, jn⟩ | h2
     ·exfalso
      obtain ⟨v, hv1, hv2⟩ := HFX.am.2 j hj jw
      obtain ⟨j', hj', hjj, hky, hjw⟩ := HFX.am.1 _ _ hv1
      have hvj : v = j' := by omega
      subst hvj
      have hkj : amKey arcs j = (f, t) := by unfold amKey; rw [j0, j1]
      rw [hkj] at hv1 hky
      have h1 := congrArg Prod.fst hky
      have h2 := congrArg Prod.snd hky
      have h3 := HFX.sp.1 v hj' h1 h2 hjw
      exact hit ⟨v, hv1, by omega⟩
     ·exact h2⟩
    have hcase : mget (amTo arcs ws arcs.length) (f, t) = none ∨ ∃ (j : Nat) (wj : Int), mget (amTo arcs ws arcs.length) (f, t) = some (j : Int) ∧ j < ws.length ∧ ws.getD j 0 = wj ∧ wj ≠ W := by
     cases hg : mget (amTo arcs ws arcs.length) (f, t) with
     | none => exact .inl rfl
     | some a =>
      obtain ⟨j', hj', hjj, _, _⟩ := HFX.am.1 _ _ hg
      subst hjj
      exact .inr ⟨j', _, rfl, by rw [HWL.out]; exact hj', rfl, fun h2 => hit ⟨j', hg, h2⟩⟩
    clear hit
    rcases hcase with hc | ⟨j, wj, hc, hjl, hj2, hne⟩
    ·have HC0 := Aside0.mk hc
     clear hc
     go_upto_region 5 with (refine wp_lookup_map pKey Try.underlying98 0 zeroI_ rfl _ _ true rfl HMA.out (f, t) rfl rfl (.tuple #[.int .i64 0, .bool false]) (by rw [HC0.out]; rfl) ?_)
     go_upto_region 7 with (fail)
     clear c2 c3 HWS HMA
     go_wp2_with (fail)
     refine (Metric_Hier.calls HRD.out).mono ?_
     rintro ev w2b ⟨rfl, rfl⟩
     go_wp2_with (fail)
     refine (HLOW _ HM.out.hier).mono ?_
     rintro ev w2 ⟨lv, rfl, hr2, hb2⟩
     obtain ⟨lA, lc, rfl⟩ := Kd.R_slice hr2
     have HLC := Aside0.mk (Kd.R_reads' hr2).2.2
     obtain ⟨ll, HLL⟩ : ∃ ll, Aside0 (lowerS (hierS n arcs L) (e : Int) = ll) := ⟨_, ⟨rfl⟩⟩
     rw [HLL.out] at HLC ⊢
     have hlln : ll.length ≤ 1000000000 := by rw [← HLL.out]; exact HFX.ll
     have HP2 := Aside0.mk (Kd.R_below HP.out hb2)
     have HB2 := Aside0.mk (below_then HB.out HB.out.size hb2)
     clear hr2 hb2 c0
     go_wp2_with (fail)
     go_loopw [89] (fun i wr => ∃ (j : Nat), i = .int .i64 (j : Int) ∧ j ≤ ll.length ∧ Aside0 (Below w2.heap.size w2 wr) ∧ UnpN n arcs L ws ll f t W j) (fun i _ => ll.length - (intOf i).toNat)
     case atStart => exact ⟨0, rfl, Nat.zero_le _, ⟨Below.refl _ _⟩, ⟨fun i hi => by omega⟩⟩
     case round =>
      obtain ⟨j, rfl, hj, HBL, HNO⟩ := hrel
      by_cases hjl : j < ll.length
      ·obtain ⟨lb, lo, hlA, hlk⟩ := cells_all (Kd.C_below HLC.out HBL.out) j hjl
       subst hlA
       obtain ⟨y, HY⟩ : ∃ y, Aside0 (ll.getD j 0 = y) := ⟨_, ⟨rfl⟩⟩
       rw [HY.out] at hlk
       obtain ⟨e1, e2, x1, hx1, he1, he2, q1, q2, q3, q4, q5⟩ := HFX.lo y (by rw [HLL.out, ← HY.out, getD_at hjl]; exact List.getElem_mem hjl)
       have hBr := below_then HB2.out HB2.out.size HBL.out
       have HBr := Aside0.mk hBr
       have HUr := Aside0.mk (HU.out.below hBr)
       have HPr := Aside0.mk (Kd.R_below HP2.out HBL.out)
       have HQ : UnpE n arcs L e1 e2 x1 y f t := ⟨he1, he2, q1, q2, q3, q4, q5⟩
       have hb1 := HFX.bd f y
       have hb2 := HFX.bd y t
       have hd1 : decide (eF n arcs L e1 = f) = false := decide_eq_false (by rw [← q2]; exact HFX.ne e1 he1)
       have hd2 : decide (eF n arcs L e2 = y) = true := decide_eq_true q3
       have HD1 := Aside0.mk hd1
       have HD2 := Aside0.mk hd2
       clear hBr hd1 hd2 q1 q2 q3 q4 q5 he1 he2
       go_wp2_with (fail)
       refine (query_weight.calls HK.out (by omega) HUr.out (u := f) (v := y) HQ.h1 (.inr ⟨HQ.q1, HQ.q2⟩)).mono ?_
       rintro ev w3 ⟨rfl, hb3⟩
       rw [HD1.out]
       replace HBL := Aside0.mk (below_then HBL.out HBL.out.size hb3)
       replace HBr := Aside0.mk (below_then HBr.out HBr.out.size hb3)
       replace HUr := Aside0.mk (HUr.out.below hb3)
       replace HPr := Aside0.mk (Kd.R_below HPr.out hb3)
       clear hb3 hlk
       go_wp2_with (fail)
       refine (query_weight.calls HK.out (by omega) HUr.out (u := y) (v := t) HQ.h2 (.inl ⟨HQ.q3, HQ.q4⟩)).mono ?_
       rintro ev w4 ⟨rfl, hb4⟩
       rw [HD2.out]
       replace HBL := Aside0.mk (below_then HBL.out HBL.out.size hb4)
       replace HBr := Aside0.mk (below_then HBr.out HBr.out.size hb4)
       replace HPr := Aside0.mk (Kd.R_below HPr.out hb4)
       clear hb4 HUr
       obtain ⟨A, HAA⟩ : ∃ A, Aside0 (atS n arcs L ws f y = A) := ⟨_, ⟨rfl⟩⟩
       obtain ⟨B, HBB⟩ : ∃ B, Aside0 (atS n arcs L ws y t = B) := ⟨_, ⟨rfl⟩⟩
       rw [HAA.out] at hb1 ⊢
       rw [HBB.out] at hb2 ⊢
       have hA0 := hb1.1
       have hB0 := hb2.1
       have hA1 : A ≤ 1152921504606846976 := hb1.2
       have hB1 : B ≤ 1152921504606846976 := hb2.2
       clear hb1 hb2
       by_cases hyes : A < 1152921504606846976 ∧ B < 1152921504606846976 ∧ A + B = W
       ·obtain ⟨y1, y2, y3⟩ := hyes
        have HW1 : Aside0 (wtS n arcs L ws true e1 = A) := ⟨by rw [← (HFX.wt e1 e2 HQ.h1 HQ.h2).1, HQ.q1, HQ.q2, HAA.out]⟩
        have HW2 : Aside0 (wtS n arcs L ws false e2 = B) := ⟨by rw [← (HFX.wt e1 e2 HQ.h1 HQ.h2).2, HQ.q3, HQ.q4, HBB.out]⟩
        have hpx : 2 ^ x1 + 2 ^ x1 ≤ 2 ^ x := by
         have h1 : 2 ^ (x1 + 1) ≤ 2 ^ x := Nat.pow_le_pow_right (by decide) (by omega)
         rw [Nat.pow_succ] at h1
         omega
        have y3b : A + B = W := y3
        subst y3b
        go_wp2_with (fail)
        refine ((IH.out x1 hx1).ap (w := w4) (e := e1) false (pv := .slice pA P.length pc) (P := P) (Nat.lt_trans hx1 hkk.out) HBr.out HQ.h1 (by rw [HQ.q1]; exact HQ.q5) (by show wtS n arcs L ws true e1 < mInf; rw [HW1.out]; exact y1) HPr.out (by omega)).mono ?_
        rintro ev w5 ⟨v1, l1, rfl, hb5, hr5, hwk1, hll1⟩
        obtain ⟨A5, c5, rfl⟩ := Kd.R_slice hr5
        have HR5 := Aside0.mk hr5
        have HB5 := Aside0.mk hb5
        have HK1 : Aside0 (WalkL arcs ws f y l1 A) := ⟨by
         have h1 : WalkL arcs ws (eT n arcs L e1) (eF n arcs L e1) l1 (wtS n arcs L ws true e1) := hwk1
         rw [HW1.out, HQ.q1, HQ.q2] at h1
         exact h1⟩
        clear hr5 hb5 hwk1
        obtain ⟨P1, HP1⟩ : ∃ P1, Aside0 (P ++ l1 = P1) := ⟨_, ⟨rfl⟩⟩
        have HP1L : Aside0 (P1.length = P.length + l1.length) := ⟨by rw [← HP1.out, List.length_append]⟩
        rw [HP1.out] at HR5 ⊢
        go_wp2_with (fail)
        refine ((IH.out x1 hx1).ap (w := w5) (e := e2) true (pv := .slice A5 P1.length c5) (P := P1) (Nat.lt_trans hx1 hkk.out) HB5.out HQ.h2 (by rw [HQ.q3]; exact HQ.q5) (by show wtS n arcs L ws false e2 < mInf; rw [HW2.out]; exact y2) HR5.out (by have := HP1L.out; omega)).mono ?_
        rintro ev w6 ⟨v2, l2, rfl, hb6, hr6, hwk2, hll2⟩
        obtain ⟨A6, c6, rfl⟩ := Kd.R_slice hr6
        have HK2 : Aside0 (WalkL arcs ws y t l2 B) := ⟨by
         have h1 : WalkL arcs ws (eF n arcs L e2) (eT n arcs L e2) l2 (wtS n arcs L ws false e2) := hwk2
         rw [HW2.out, HQ.q3, HQ.q4] at h1
         exact h1⟩
        have HR6 := Aside0.mk hr6
        have HB6 := Aside0.mk hb6
        clear hr6 hb6 hwk2
        go_wp2_with (fail)
        go_ret
        exact ⟨_, l1 ++ l2, rfl, HB6.out, by rw [← List.append_assoc, HP1.out]; have h9 := HR6.out; rw [List.length_append] at h9; exact h9, HK1.out.append HK2.out, by rw [List.length_append]; omega⟩
       ·have HNO2 : UnpN n arcs L ws ll f t W (j + 1) := ⟨fun i hi => by
         by_cases hij : i = j
         ·subst hij
          rw [HY.out, HAA.out, HBB.out] 
          intro h2
          have h3 : over A B = if A = mInf ∨ B = mInf then mInf else A + B := rfl
          rw [h2] at h3
          have hm : mInf = 1152921504606846976 := rfl
          split at h3
          ·omega
          ·exact hyes ⟨by omega, by omega, h3.symm⟩
         ·exact HNO.out i (by omega)⟩
        by_cases hA : A < 1152921504606846976
        ·by_cases hB : B < 1152921504606846976
         ·have hne2 : ¬ (A + B = W) := fun h => hyes ⟨hA, hB, h⟩
          clear hyes
          go_wp2_with (fail)
          go_roundw
          case rel => exact ⟨j + 1, by go_num, by omega, HBL, HNO2⟩
          case measure => simp [intOf]; omega
         ·clear hyes
          go_wp2_with (fail)
          go_roundw
          case rel => exact ⟨j + 1, by go_num, by omega, HBL, HNO2⟩
          case measure => simp [intOf]; omega
        ·clear hyes
         go_wp2_with (fail)
         go_roundw
         case rel => exact ⟨j + 1, by go_num, by omega, HBL, HNO2⟩
         case measure => simp [intOf]; omega
      ·exfalso
       obtain ⟨y, hy, hy2⟩ := HEXY.out
       rw [HLL.out] at hy
       obtain ⟨i, hi, rfl⟩ := List.getElem_of_mem hy
       refine HNO.out i (by omega) ?_
       rw [getD_at hi]
       exact hy2
    ·have HC0 := Aside0.mk hc
     obtain ⟨wb, wo, hwA, hwk⟩ := cells_all HWS.out j hjl
     subst hwA
     rw [hj2] at hwk
     clear hc hj2
     go_upto_region 5 with (refine wp_lookup_map pKey Try.underlying98 0 zeroI_ rfl _ _ true rfl HMA.out (f, t) rfl rfl (.tuple #[.int .i64 (j : Int), .bool true]) (by rw [HC0.out]; rfl) ?_)
     go_upto_region 7 with (fail)
     clear hwk hne
     clear c2 c3 HWS HMA
     go_wp2_with (fail)
     refine (Metric_Hier.calls HRD.out).mono ?_
     rintro ev w2b ⟨rfl, rfl⟩
     go_wp2_with (fail)
     refine (HLOW _ HM.out.hier).mono ?_
     rintro ev w2 ⟨lv, rfl, hr2, hb2⟩
     obtain ⟨lA, lc, rfl⟩ := Kd.R_slice hr2
     have HLC := Aside0.mk (Kd.R_reads' hr2).2.2
     obtain ⟨ll, HLL⟩ : ∃ ll, Aside0 (lowerS (hierS n arcs L) (e : Int) = ll) := ⟨_, ⟨rfl⟩⟩
     rw [HLL.out] at HLC ⊢
     have hlln : ll.length ≤ 1000000000 := by rw [← HLL.out]; exact HFX.ll
     have HP2 := Aside0.mk (Kd.R_below HP.out hb2)
     have HB2 := Aside0.mk (below_then HB.out HB.out.size hb2)
     clear hr2 hb2 c0
     go_wp2_with (fail)
     go_loopw [89] (fun i wr => ∃ (j : Nat), i = .int .i64 (j : Int) ∧ j ≤ ll.length ∧ Aside0 (Below w2.heap.size w2 wr) ∧ UnpN n arcs L ws ll f t W j) (fun i _ => ll.length - (intOf i).toNat)
     case atStart => exact ⟨0, rfl, Nat.zero_le _, ⟨Below.refl _ _⟩, ⟨fun i hi => by omega⟩⟩
     case round =>
      obtain ⟨j, rfl, hj, HBL, HNO⟩ := hrel
      by_cases hjl : j < ll.length
      ·obtain ⟨lb, lo, hlA, hlk⟩ := cells_all (Kd.C_below HLC.out HBL.out) j hjl
       subst hlA
       obtain ⟨y, HY⟩ : ∃ y, Aside0 (ll.getD j 0 = y) := ⟨_, ⟨rfl⟩⟩
       rw [HY.out] at hlk
       obtain ⟨e1, e2, x1, hx1, he1, he2, q1, q2, q3, q4, q5⟩ := HFX.lo y (by rw [HLL.out, ← HY.out, getD_at hjl]; exact List.getElem_mem hjl)
       have hBr := below_then HB2.out HB2.out.size HBL.out
       have HBr := Aside0.mk hBr
       have HUr := Aside0.mk (HU.out.below hBr)
       have HPr := Aside0.mk (Kd.R_below HP2.out HBL.out)
       have HQ : UnpE n arcs L e1 e2 x1 y f t := ⟨he1, he2, q1, q2, q3, q4, q5⟩
       have hb1 := HFX.bd f y
       have hb2 := HFX.bd y t
       have hd1 : decide (eF n arcs L e1 = f) = false := decide_eq_false (by rw [← q2]; exact HFX.ne e1 he1)
       have hd2 : decide (eF n arcs L e2 = y) = true := decide_eq_true q3
       have HD1 := Aside0.mk hd1
       have HD2 := Aside0.mk hd2
       clear hBr hd1 hd2 q1 q2 q3 q4 q5 he1 he2
       go_wp2_with (fail)
       refine (query_weight.calls HK.out (by omega) HUr.out (u := f) (v := y) HQ.h1 (.inr ⟨HQ.q1, HQ.q2⟩)).mono ?_
       rintro ev w3 ⟨rfl, hb3⟩
       rw [HD1.out]
       replace HBL := Aside0.mk (below_then HBL.out HBL.out.size hb3)
       replace HBr := Aside0.mk (below_then HBr.out HBr.out.size hb3)
       replace HUr := Aside0.mk (HUr.out.below hb3)
       replace HPr := Aside0.mk (Kd.R_below HPr.out hb3)
       clear hb3 hlk
       go_wp2_with (fail)
       refine (query_weight.calls HK.out (by omega) HUr.out (u := y) (v := t) HQ.h2 (.inl ⟨HQ.q3, HQ.q4⟩)).mono ?_
       rintro ev w4 ⟨rfl, hb4⟩
       rw [HD2.out]
       replace HBL := Aside0.mk (below_then HBL.out HBL.out.size hb4)
       replace HBr := Aside0.mk (below_then HBr.out HBr.out.size hb4)
       replace HPr := Aside0.mk (Kd.R_below HPr.out hb4)
       clear hb4 HUr
       obtain ⟨A, HAA⟩ : ∃ A, Aside0 (atS n arcs L ws f y = A) := ⟨_, ⟨rfl⟩⟩
       obtain ⟨B, HBB⟩ : ∃ B, Aside0 (atS n arcs L ws y t = B) := ⟨_, ⟨rfl⟩⟩
       rw [HAA.out] at hb1 ⊢
       rw [HBB.out] at hb2 ⊢
       have hA0 := hb1.1
       have hB0 := hb2.1
       have hA1 : A ≤ 1152921504606846976 := hb1.2
       have hB1 : B ≤ 1152921504606846976 := hb2.2
       clear hb1 hb2
       by_cases hyes : A < 1152921504606846976 ∧ B < 1152921504606846976 ∧ A + B = W
       ·obtain ⟨y1, y2, y3⟩ := hyes
        have HW1 : Aside0 (wtS n arcs L ws true e1 = A) := ⟨by rw [← (HFX.wt e1 e2 HQ.h1 HQ.h2).1, HQ.q1, HQ.q2, HAA.out]⟩
        have HW2 : Aside0 (wtS n arcs L ws false e2 = B) := ⟨by rw [← (HFX.wt e1 e2 HQ.h1 HQ.h2).2, HQ.q3, HQ.q4, HBB.out]⟩
        have hpx : 2 ^ x1 + 2 ^ x1 ≤ 2 ^ x := by
         have h1 : 2 ^ (x1 + 1) ≤ 2 ^ x := Nat.pow_le_pow_right (by decide) (by omega)
         rw [Nat.pow_succ] at h1
         omega
        have y3b : A + B = W := y3
        subst y3b
        go_wp2_with (fail)
        refine ((IH.out x1 hx1).ap (w := w4) (e := e1) false (pv := .slice pA P.length pc) (P := P) (Nat.lt_trans hx1 hkk.out) HBr.out HQ.h1 (by rw [HQ.q1]; exact HQ.q5) (by show wtS n arcs L ws true e1 < mInf; rw [HW1.out]; exact y1) HPr.out (by omega)).mono ?_
        rintro ev w5 ⟨v1, l1, rfl, hb5, hr5, hwk1, hll1⟩
        obtain ⟨A5, c5, rfl⟩ := Kd.R_slice hr5
        have HR5 := Aside0.mk hr5
        have HB5 := Aside0.mk hb5
        have HK1 : Aside0 (WalkL arcs ws f y l1 A) := ⟨by
         have h1 : WalkL arcs ws (eT n arcs L e1) (eF n arcs L e1) l1 (wtS n arcs L ws true e1) := hwk1
         rw [HW1.out, HQ.q1, HQ.q2] at h1
         exact h1⟩
        clear hr5 hb5 hwk1
        obtain ⟨P1, HP1⟩ : ∃ P1, Aside0 (P ++ l1 = P1) := ⟨_, ⟨rfl⟩⟩
        have HP1L : Aside0 (P1.length = P.length + l1.length) := ⟨by rw [← HP1.out, List.length_append]⟩
        rw [HP1.out] at HR5 ⊢
        go_wp2_with (fail)
        refine ((IH.out x1 hx1).ap (w := w5) (e := e2) true (pv := .slice A5 P1.length c5) (P := P1) (Nat.lt_trans hx1 hkk.out) HB5.out HQ.h2 (by rw [HQ.q3]; exact HQ.q5) (by show wtS n arcs L ws false e2 < mInf; rw [HW2.out]; exact y2) HR5.out (by have := HP1L.out; omega)).mono ?_
        rintro ev w6 ⟨v2, l2, rfl, hb6, hr6, hwk2, hll2⟩
        obtain ⟨A6, c6, rfl⟩ := Kd.R_slice hr6
        have HK2 : Aside0 (WalkL arcs ws y t l2 B) := ⟨by
         have h1 : WalkL arcs ws (eF n arcs L e2) (eT n arcs L e2) l2 (wtS n arcs L ws false e2) := hwk2
         rw [HW2.out, HQ.q3, HQ.q4] at h1
         exact h1⟩
        have HR6 := Aside0.mk hr6
        have HB6 := Aside0.mk hb6
        clear hr6 hb6 hwk2
        go_wp2_with (fail)
        go_ret
        exact ⟨_, l1 ++ l2, rfl, HB6.out, by rw [← List.append_assoc, HP1.out]; have h9 := HR6.out; rw [List.length_append] at h9; exact h9, HK1.out.append HK2.out, by rw [List.length_append]; omega⟩
       ·have HNO2 : UnpN n arcs L ws ll f t W (j + 1) := ⟨fun i hi => by
         by_cases hij : i = j
         ·subst hij
          rw [HY.out, HAA.out, HBB.out] 
          intro h2
          have h3 : over A B = if A = mInf ∨ B = mInf then mInf else A + B := rfl
          rw [h2] at h3
          have hm : mInf = 1152921504606846976 := rfl
          split at h3
          ·omega
          ·exact hyes ⟨by omega, by omega, h3.symm⟩
         ·exact HNO.out i (by omega)⟩
        by_cases hA : A < 1152921504606846976
        ·by_cases hB : B < 1152921504606846976
         ·have hne2 : ¬ (A + B = W) := fun h => hyes ⟨hA, hB, h⟩
          clear hyes
          go_wp2_with (fail)
          go_roundw
          case rel => exact ⟨j + 1, by go_num, by omega, HBL, HNO2⟩
          case measure => simp [intOf]; omega
         ·clear hyes
          go_wp2_with (fail)
          go_roundw
          case rel => exact ⟨j + 1, by go_num, by omega, HBL, HNO2⟩
          case measure => simp [intOf]; omega
        ·clear hyes
         go_wp2_with (fail)
         go_roundw
         case rel => exact ⟨j + 1, by go_num, by omega, HBL, HNO2⟩
         case measure => simp [intOf]; omega
      ·exfalso
       obtain ⟨y, hy, hy2⟩ := HEXY.out
       rw [HLL.out] at hy
       obtain ⟨i, hi, rfl⟩ := List.getElem_of_mem hy
       refine HNO.out i (by omega) ?_
       rw [getD_at hi]
       exact hy2
end Go.Proofs.Ytfnophaiamkmpaa.Print
