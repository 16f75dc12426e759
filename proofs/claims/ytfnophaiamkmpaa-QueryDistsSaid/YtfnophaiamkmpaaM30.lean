/- Several texts of this claim in one: HQPathW, F14. -/
import Derived.Test.YtfnophaiamkmpaaM29
import Derived.Test.YtfnophaiamkmpaaPrint0
import Derived.Test.YtfnophaiamkmpaaM21
import Derived.Test.YtfnophaiamkmpaaM8
import Derived.Test.YtfnophaiamkmpaaM0
namespace Go.Proofs.Ytfnophaiamkmpaa.Print
open Go.RowKit Go.Proofs.YtfnophaiamkmpaaW.PrintWords Go.Proofs.YtfnophaiamkmpaaW.PrintLast Go.Proofs.YtfnophaiamkmpaaW.PrintMore
set_option linter.unusedVariables false
set_option linter.unusedSimpArgs false

theorem yields_lookup0 {κ ε : Type} [DecidableEq κ] {encK : κ → Value} {encE : ε → Value} {P : Program} {w : World} {b : Nat} {m : List (κ × ε)} {t kt et : TypeId} {o : Oper} {a : Act} (K : KeyKind P kt encK) (ht : P.underlying t = some (.map kt et)) (z : ε) (hz : ∀ w, (zeroValue et).run P w = .ok (encE z) w) (mo x : Operand) (h : MapIs encK encE w b m) (k : κ)
  (hop : o.op = Op.lookup t mo x false) (hm : a.eval mo = .map (some b)) (hx : a.eval x = encK k) {v : Value} (hv : encE ((mget m k).getD z) = v) : (execOp a.eval o).run P w = .ok (.value v) w := by
 have hrun := run_lookup_map K ht h z hz k false
 simp only [Bool.false_eq_true, if_false] at hrun
 rw [hv] at hrun
 unfold execOp
 simp only [hop, Sem.run_bind, Sem.run_pure, Result.andThen_ok, hm, hx, hrun]
def rkM (n : Nat) (L : List Int) (v : Int) : Nat := (rankS n (ranksTo L L.length) v).toNat
theorem Hk.rkM_at {n : Nat} {arcs : List S58} {L : List Int} (h : Hk n arcs L) {y : Nat} (hy : y < n) : rkM n L (L.getD y 0) = y := by
 unfold rkM
 rw [h.rank_of hy, Int.toNat_natCast]
structure PathC (n : Nat) (arcs : List S58) (L ws : List Int) (q p : Nat) : Prop where
 hk : Hk n arcs L
 hn : n ≤ 20
 wl : ws.length = arcs.length
 wr : ∀ i, i < ws.length → ws.getD i 0 ≤ 1073741824
 al : arcs.length ≤ 1000000
structure PathU (n : Nat) (arcs : List S58) (L ws : List Int) (x : Nat) (v a u : Int) (E : List Int) : Prop where
 out : ∃ (cu : Int) (z zv : Nat), mget (climbF n arcs L ws false x).cost u = some cu ∧ z < n ∧ u = L.getD z 0 ∧ UpL n arcs L ws false u v E.reverse (a - cu) ∧ zv < n ∧ E.length + z ≤ zv
theorem PathU.start {n : Nat} {arcs : List S58} {L ws : List Int} {x : Nat} {v a : Int} (h : Hk n arcs L) (hx : x < n) (hc : mget (climbF n arcs L ws false x).cost v = some a) : PathU n arcs L ws x v a v [] := by
 obtain ⟨z, hz, hz2⟩ := h.cost_at hx (h.climbF_ok (ws := ws) (b := false) hx) hc
 exact ⟨a, z, z, hc, hz, hz2, by rw [show a - a = 0 by omega]; exact UpL.nil v, hz, by simp⟩
theorem PathU.step {n : Nat} {arcs : List S58} {L ws : List Int} {x : Nat} {v a u : Int} {E : List Int} (h : Hk n arcs L) (hx : x < n) (hU : PathU n arcs L ws x v a u E) :
  (u = L.getD x 0 ∧ mget (climbF n arcs L ws false x).via u = some (-1) ∧ UpL n arcs L ws false u v E.reverse a) ∨ ∃ e : Nat, mget (climbF n arcs L ws false x).via u = some (e : Int) ∧ e < eL n arcs L ∧ PathU n arcs L ws x v a (eF n arcs L e) (E ++ [(e : Int)]) ∧ rkM n L (eF n arcs L e) < rkM n L u ∧ E.length ≤ 20 + n := by
 obtain ⟨cu, z, zv, h1, h2, h3, h4, h5, h6⟩ := hU.out
 rcases h.via_step hx (h.climbF_ok (ws := ws) (b := false) hx) h1 with ⟨k1, k2, k3⟩ | ⟨e, y, z', c0, k1, k2, k3, k4, k5, k6, k7, k8, k9, k10⟩
 ·subst k2
  rw [Int.sub_zero] at h4
  exact .inl ⟨k1, k3, h4⟩
 ·have ez : z' = z := ord_inj h.ord k8 h2 (by rw [← k10, ← h3])
  subst ez
  refine .inr ⟨e, k1, k2, ⟨c0, y, zv, k4, by omega, k9, ?_, h5, by rw [List.length_append]; simp; omega⟩, ?_, by omega⟩
  ·rw [List.reverse_append]
   show UpL n arcs L ws false (eF n arcs L e) v ((e : Int) :: E.reverse) (a - c0)
   rw [show a - c0 = wtS n arcs L ws false e + (a - cu) by omega]
   exact UpL.cons e k2 rfl k6 (by rw [k3]; exact h4)
  ·rw [k9, h3, h.rkM_at (show y < n by omega), h.rkM_at k8]
   exact k7
structure PathF (n : Nat) (arcs : List S58) (L ws : List Int) (s v a : Int) (ES : List Int) (j : Nat) (P : List Int) : Prop where
 out : ∃ (u c1 c2 : Int), WalkL arcs ws s u P c1 ∧ UpL n arcs L ws false u v (ES.drop j) c2 ∧ c1 + c2 = a ∧ P.length ≤ j * 1048576 ∧ j ≤ ES.length
section
variable {n : Nat} {arcs : List S58} {L ws : List Int}
theorem PathF.start {s v a : Int} {ES : List Int} (h : UpL n arcs L ws false s v ES a) : PathF n arcs L ws s v a ES 0 [] := ⟨s, 0, a, WalkL.nil s, h, by omega, by simp, by omega⟩
theorem PathF.done {s v a : Int} {ES P : List Int} (h : PathF n arcs L ws s v a ES ES.length P) : WalkL arcs ws s v P a := by
 obtain ⟨u, c1, c2, h1, h2, h3, _⟩ := h.out
 rw [List.drop_length] at h2
 cases h2
 rw [← h3, Int.add_zero]
 exact h1
theorem PathF.step {s v a : Int} {ES P : List Int} {j : Nat} (hk : Hk n arcs L) (hn : n ≤ 20) (h : PathF n arcs L ws s v a ES j P) (hj : j < ES.length) : ∃ e x' : Nat, ES.getD j 0 = (e : Int) ∧ e < eL n arcs L ∧ eF n arcs L e = L.getD x' 0 ∧ x' < n ∧ wtS n arcs L ws false e < mInf ∧ ∀ l, WalkL arcs ws (eF n arcs L e) (eT n arcs L e) l (wtS n arcs L ws false e) → l.length ≤ 2 ^ x' → PathF n arcs L ws s v a ES (j + 1) (P ++ l) := by
 obtain ⟨u, c1, c2, h1, h2, h3, h4, _⟩ := h.out
 rw [List.drop_eq_getElem_cons hj] at h2
 generalize hd : ES.drop (j + 1) = D at h2
 generalize hx : ES[j] = ej at h2
 cases h2 with
 | @cons _ _ c l e he h0 hw h5 =>
  obtain ⟨x1, x2, q1, q2, q3, q4, _⟩ := hk.edge_rk he
  refine ⟨e, x1, by rw [getD_at hj]; exact hx, he, q3, by omega, hw, fun l hl hll => ?_⟩
  have hp : 2 ^ x1 ≤ 2 ^ 20 := Nat.pow_le_pow_right (by decide) (by omega)
  rw [h0] at hl
  refine ⟨_, _, c, h1.append hl, by rw [hd]; exact h5, by omega, ?_, by omega⟩
  rw [List.length_append]
  have : (j + 1) * 1048576 = j * 1048576 + 1048576 := by omega
  omega
structure PathD (n : Nat) (arcs : List S58) (L ws : List Int) (y : Nat) (s tot u : Int) (P : List Int) : Prop where
 out : ∃ (c1 cu : Int) (z : Nat), mget (climbF n arcs L ws true y).cost u = some cu ∧ z < n ∧ u = L.getD z 0 ∧ WalkL arcs ws s u P c1 ∧ c1 + cu = tot ∧ P.length + z * 1048576 ≤ 100000000
theorem PathD.step {y : Nat} {s tot u : Int} {P : List Int} (hk : Hk n arcs L) (hn : n ≤ 20) (hy : y < n) (h : PathD n arcs L ws y s tot u P) :
  (u = L.getD y 0 ∧ mget (climbF n arcs L ws true y).via u = some (-1) ∧ WalkL arcs ws s u P tot) ∨ ∃ e x' : Nat, mget (climbF n arcs L ws true y).via u = some (e : Int) ∧ e < eL n arcs L ∧ eF n arcs L e = L.getD x' 0 ∧ x' < n ∧ wtS n arcs L ws true e < mInf ∧ rkM n L (eF n arcs L e) < rkM n L u ∧ P.length + 2 ^ x' ≤ 1000000000 ∧ ∀ l, WalkL arcs ws (eT n arcs L e) (eF n arcs L e) l (wtS n arcs L ws true e) → l.length ≤ 2 ^ x' → PathD n arcs L ws y s tot (eF n arcs L e) (P ++ l) := by
 obtain ⟨c1, cu, z, h1, h2, h3, h4, h5, h6⟩ := h.out
 rcases hk.via_step hy (hk.climbF_ok (ws := ws) (b := true) hy) h1 with ⟨k1, k2, k3⟩ | ⟨e, x1, z', c0, k1, k2, k3, k4, k5, k6, k7, k8, k9, k10⟩
 ·subst k2
  rw [Int.add_zero] at h5
  subst h5
  exact .inl ⟨k1, k3, h4⟩
 ·have ez : z' = z := ord_inj hk.ord k8 h2 (by rw [← k10, ← h3])
  subst ez
  have hp : 2 ^ x1 ≤ 2 ^ 20 := Nat.pow_le_pow_right (by decide) (by omega)
  refine .inr ⟨e, x1, k1, k2, k9, by omega, k6, ?_, by omega, fun l hl hll => ?_⟩
  ·rw [k9, h3, hk.rkM_at (show x1 < n by omega), hk.rkM_at k8]
   exact k7
  ·rw [k3] at hl
   refine ⟨_, c0, x1, k4, by omega, k9, h4.append hl, by omega, ?_⟩
   rw [List.length_append]
   omega
end
set_option maxHeartbeats 12800000 in
set_option maxRecDepth 100000 in
theorem query_Path.calls {w : World} {q p n : Nat} {arcs : List S58} {L ws : List Int} (hpc : PathC n arcs L ws q p) (hM : MetH w q p n arcs L ws) (s t : Int) :
  Calls Try.prog 19 #[.pointer (some ⟨q, 0, none⟩), .int .i64 s, .int .i64 t] w fun e w' => Below w.heap.size w w' ∧ (((hasV n s = false ∨ hasV n t = false) ∧ e = .returned (.tuple #[.slice none 0 0, .int .i64 0, .int .i64 2])) ∨
   (∃ x y : Nat, x < n ∧ y < n ∧ L.getD x 0 = s ∧ L.getD y 0 = t ∧ (((meetF n arcs L ws x y).2.2 = false ∧ e = .returned (.tuple #[.slice none 0 0, .int .i64 0, .int .i64 18])) ∨ ((meetF n arcs L ws x y).2.2 = true ∧ ∃ (v : Value) (l : List Int), e = .returned (.tuple #[v, .int .i64 (meetF n arcs L ws x y).2.1, .int .i64 0]) ∧ Kd.R (Kd.int .i64) 3 w' w.heap.size (fun _ => True) v l ∧ WalkL arcs ws s t l (meetF n arcs L ws x y).2.1)))) := by
 have HM := Aside0.mk hM
 have HC2 := Aside0.mk (hpc.hk.chk2 s t)
 have hn := hpc.hn
 have hal := hpc.al
 clear hM
 go_enter Try.func19, Try.ntmps19
 go_wp2_with (fail)
 have hb0 : Below w.heap.size w (w.alloc (Obj.cells #[.int .i64 s, .int .i64 t] 3)) := (Below.refl _ _).alloc (Nat.le_refl _) _
 have hC := C_lit (l := [s, t]) (heap_alloc_new w (Obj.cells #[.int .i64 s, .int .i64 t] 3)) rfl (by simp)
 refine (query_check.calls hpc.hk (by omega) (HM.out.below hb0) (l := [s, t]) hC (by simp)).mono ?_
 rintro e w1 ⟨rfl, rfl⟩
 have HB := Aside0.mk hb0
 clear hb0 hC
 generalize w.alloc (Obj.cells #[.int .i64 s, .int .i64 t] 3) = w1 at HB ⊢
 rcases HC2.out with ⟨h2, h3⟩ | ⟨h2, x, y, hx, hy, hxs, hyt⟩
 ·rw [h2]
  clear h2 HC2
  have H3 := Aside0.mk h3
  clear h3
  go_wp2
  go_ret3
  exact ⟨HB.out, .inl ⟨H3.out, rfl⟩⟩
 ·rw [h2]
  have HMC := query_meet.calls hpc.hk hn (HM.out.below HB.out) hpc.wl hpc.wr hx hy
  rw [hxs, hyt] at HMC
  have HMC2 := Aside0.mk HMC
  have HX : Aside0 (x < n) := ⟨hx⟩
  have HY : Aside0 (y < n) := ⟨hy⟩
  have HXS := Aside0.mk hxs
  have HYT := Aside0.mk hyt
  have HFD := Aside0.mk (fun hf => hpc.hk.meet_at (ws := ws) (x := x) (y := y) hx hf)
  have HFM : Aside0 (meetS (climbF n arcs L ws false x).l (climbF n arcs L ws true y).cost = meetF n arcs L ws x y) := ⟨rfl⟩
  rw [HFM.out] at HMC2
  obtain ⟨r, HR⟩ : ∃ r, Aside0 (meetF n arcs L ws x y = r) := ⟨_, ⟨rfl⟩⟩
  rw [HR.out] at HMC2 HFD
  clear h2 HC2 HMC hx hy hxs hyt HFM
  obtain ⟨r1, r2, r3⟩ := r
  dsimp only at HMC2 HFD
  go_wp2_with (fail)
  refine HMC2.out.mono ?_
  rintro e w2 ⟨rfl, hb2⟩
  replace HB := Aside0.mk (below_then HB.out HB.out.size hb2)
  clear hb2 HMC2
  cases r3 with
  | false =>
   clear HFD
   go_wp2_with (fail)
   go_ret3
   exact ⟨HB.out, .inr ⟨x, y, HX.out, HY.out, HXS.out, HYT.out, .inl ⟨by rw [HR.out], rfl⟩⟩⟩
  | true =>
   obtain ⟨a, c, hca, hcc, hac⟩ := HFD.out rfl
   have HCA := Aside0.mk hca
   have HCC := Aside0.mk hcc
   have HAC := Aside0.mk hac
   clear HFD hca hcc hac
   go_wp2_with (fail)
   refine (query_newUnpacker.calls hpc.hk (by omega) (HM.out.below HB.out) hal hpc.wl).mono ?_
   rintro e w3 ⟨pu, rfl, hb3, hU3⟩
   replace HB := Aside0.mk (below_then HB.out HB.out.size hb3)
   have HU := Aside0.mk hU3
   clear hb3 hU3
   have hq1 := query_climb.fin hpc.hk hn (HM.out.below HB.out) hpc.wl hpc.wr false HX.out
   rw [HXS.out] at hq1
   go_wp2_with (fail)
   refine hq1.mono ?_
   rintro e w4 ⟨lv1, mc1, mv1, rfl, hb4, hr4, hm4, hv4⟩
   obtain ⟨lA1, lc1, rfl⟩ := Kd.R_slice hr4
   replace HB := Aside0.mk (below_then HB.out HB.out.size hb4)
   replace HU := Aside0.mk (HU.out.below hb4)
   have HV1 := Aside0.mk hv4
   obtain ⟨n1, HN1⟩ : ∃ k, Aside0 (((climbF n arcs L ws false x).l.map toR).length = k) := ⟨_, ⟨rfl⟩⟩
   rw [HN1.out]
   clear hb4 hr4 hm4 hv4 hq1
   have hq2 := query_climb.fin hpc.hk hn (HM.out.below HB.out) hpc.wl hpc.wr true HY.out
   rw [HYT.out] at hq2
   go_wp2_with (fail)
   refine hq2.mono ?_
   rintro e w5 ⟨lv2, mc2, mv2, rfl, hb5, hr5, hm5, hv5⟩
   obtain ⟨lA2, lc2, rfl⟩ := Kd.R_slice hr5
   replace HB := Aside0.mk (below_then HB.out HB.out.size hb5)
   replace HU := Aside0.mk (HU.out.below hb5)
   replace HV1 := Aside0.mk (HV1.out.below hb5)
   have HV2 := Aside0.mk hv5
   obtain ⟨n2, HN2⟩ : ∃ k, Aside0 (((climbF n arcs L ws true y).l.map toR).length = k) := ⟨_, ⟨rfl⟩⟩
   rw [HN2.out]
   clear hb5 hr5 hm5 hv5 hq2
   go_wp2_with (fail)
   have hs6 : ((w5.alloc (Obj.cells #[.slice lA1 n1 lc1, .map (some mc1), .map (some mv1)] 96)).alloc (Obj.cells #[.slice lA2 n2 lc2, .map (some mc2), .map (some mv2)] 96)).heap.size = w5.heap.size + 2 := by rw [World.size_alloc, World.size_alloc]
   have hb6 : Below w5.heap.size w5 ((w5.alloc (Obj.cells #[.slice lA1 n1 lc1, .map (some mc1), .map (some mv1)] 96)).alloc (Obj.cells #[.slice lA2 n2 lc2, .map (some mc2), .map (some mv2)] 96)) := ((Below.refl _ _).alloc (Nat.le_refl _) _).alloc (by rw [World.size_alloc]; omega) _
   have HX1 := Aside0.mk (show ((w5.alloc (Obj.cells #[.slice lA1 n1 lc1, .map (some mc1), .map (some mv1)] 96)).alloc (Obj.cells #[.slice lA2 n2 lc2, .map (some mc2), .map (some mv2)] 96)).heap[w5.heap.size]? = some (.cells #[.slice lA1 n1 lc1, .map (some mc1), .map (some mv1)] 96 (0, 0)) from blk_below (heap_alloc_new w5 _) ((Below.refl _ _).alloc (Nat.le_refl _) _))
   have hx2 := heap_alloc_new (w5.alloc (Obj.cells #[.slice lA1 n1 lc1, .map (some mc1), .map (some mv1)] 96)) (Obj.cells #[.slice lA2 n2 lc2, .map (some mc2), .map (some mv2)] 96)
   rw [World.size_alloc] at hx2
   have HX2 := Aside0.mk hx2
   replace HB := Aside0.mk (below_then HB.out HB.out.size hb6)
   replace HU := Aside0.mk (HU.out.below hb6)
   replace HV1 := Aside0.mk (HV1.out.below hb6)
   replace HV2 := Aside0.mk (HV2.out.below hb6)
   clear hb6 hx2 hs6
   generalize (w5.alloc (Obj.cells #[.slice lA1 n1 lc1, .map (some mc1), .map (some mv1)] 96)).alloc (Obj.cells #[.slice lA2 n2 lc2, .map (some mc2), .map (some mv2)] 96) = w6 at HX1 HX2 HB HU HV1 HV2 ⊢
   generalize w5.heap.size = b14 at HX1 HX2 ⊢
   go_loopw [16, 17] (fun ev uv wr => ∃ (E : List Int) (A : Option Addr) (ec : Nat) (u : Int), ev = .slice A E.length ec ∧ uv = .int .i64 u ∧ Aside0 (Below w6.heap.size w6 wr) ∧ Aside0 (Kd.R (Kd.int .i64) 3 wr w6.heap.size (fun _ => True) (.slice A E.length ec) E) ∧ PathU n arcs L ws x r1 a u E) (fun _ uv _ => rkM n L (intOf uv))
   case atStart => exact ⟨[], none, 0, r1, rfl, rfl, ⟨Below.refl _ _⟩, ⟨Kd.R_nil _ _ _ _ _⟩, PathU.start hpc.hk HX.out HCA.out⟩
   case round =>
    obtain ⟨E, A, ec, u, rfl, rfl, HBL, HE, HPU⟩ := hrel
    have HX1r := Aside0.mk (blk_below HX1.out HBL.out)
    have x2 := (blk_cell HX1r.out 2).trans rfl
    have HV1r := Aside0.mk (HV1.out.below HBL.out)
    rcases HPU.step hpc.hk HX.out with ⟨k1, k2, k3⟩ | ⟨e, k1, k2, k3, k4, k5⟩
    ·have hEl : E.length ≤ 20 := by
      obtain ⟨_, z, zv, _, _, _, _, q1, q2⟩ := HPU.out
      omega
     obtain ⟨kr, hkr⟩ := rev_ev E (by omega)
     have HKR := Aside0.mk hkr
     have K2 := Aside0.mk k2
     have HSTART : PathF n arcs L ws s r1 a E.reverse 0 [] := PathF.start (by rw [← HXS.out, ← k1]; exact k3)
     have HMR : Aside0 (E.reverse.length = E.length) := ⟨List.length_reverse⟩
     clear k1 k2 k3 hkr
     go_wp2_with (refine wp_lookup_map qKey Try.underlying94 0 zeroI_ rfl _ _ false rfl HV1r.out u rfl rfl (.int .i64 (-1)) (by rw [K2.out]; rfl) ?_)
     refine (slices_Reverse_int_int.calls kr (fun _ => True) _ E E.reverse w6 wr HBL.out HE.out HKR.out).mono ?_
     rintro e w7 ⟨rfl, hr7, hb7, _⟩
     have HEC := Aside0.mk (Kd.R_reads' hr7).2.2
     have HB7 := Aside0.mk hb7
     obtain ⟨m, HML⟩ : ∃ m, Aside0 (E.length = m) := ⟨_, ⟨rfl⟩⟩
     obtain ⟨ES, HES⟩ : ∃ ES, Aside0 (E.reverse = ES) := ⟨_, ⟨rfl⟩⟩
     rw [HML.out] at HMR hEl ⊢
     rw [HES.out] at HMR HEC HSTART
     have HU7 := Aside0.mk (HU.out.below HB7.out)
     have HX27 := Aside0.mk (blk_below HX2.out HB7.out)
     have HV27 := Aside0.mk (HV2.out.below HB7.out)
     have HBW := Aside0.mk (below_then HB.out HB.out.size HB7.out)
     clear hr7 hb7 HBL HE HPU HX1r x2 HV1r HV1 HKR K2
     go_wp2_with (fail)
     go_loopw [18, 76] (fun pv iv wr => ∃ (j : Nat) (P : List Int) (A2 : Option Addr) (pc : Nat), pv = .slice A2 P.length pc ∧ iv = .int .i64 (j : Int) ∧ j ≤ m ∧ Aside0 (Below w7.heap.size w7 wr) ∧ Aside0 (Kd.R (Kd.int .i64) 3 wr w7.heap.size (fun _ => True) (.slice A2 P.length pc) P) ∧ PathF n arcs L ws s r1 a ES j P) (fun _ iv _ => m - (intOf iv).toNat)
     case atStart => exact ⟨0, [], none, 0, rfl, rfl, Nat.zero_le _, ⟨Below.refl _ _⟩, ⟨Kd.R_nil _ _ _ _ _⟩, HSTART⟩
     case round =>
      obtain ⟨j, P, A2, pc, rfl, rfl, hj, HBL2, HP, HPF⟩ := hrel
      have hPl : P.length ≤ 20971520 := by
       obtain ⟨_, _, _, _, _, _, q1, q2⟩ := HPF.out
       omega
      by_cases hjm : j < m
      ·obtain ⟨e, x', q1, q2, q3, q4, q5, q6⟩ := HPF.step hpc.hk hn (by rw [HMR.out]; exact hjm)
       have hp : 2 ^ x' ≤ 2 ^ 20 := Nat.pow_le_pow_right (by decide) (by omega)
       have hec := Kd.C_below HEC.out HBL2.out
       obtain ⟨lb, lo, hlA, hlk⟩ := cells_all hec j (by rw [HMR.out]; exact hjm)
       subst hlA
       rw [q1] at hlk
       have hun := (query_unpack.calls hpc.hk hn hpc.wl hpc.wr hal HU7.out x').ap true q4 HBL2.out q2 q3 q5 HP.out (by omega)
       have HUN := Aside0.mk hun
       have Q6 := Aside0.mk q6
       clear hec q1 q2 q3 q4 q5 q6 hp hun
       go_wp2_with (fail)
       refine HUN.out.mono ?_
       rintro ev w8 ⟨v, l, rfl, hb8, hr8, hw8, hl8⟩
       obtain ⟨A8, c8, rfl⟩ := Kd.R_slice hr8
       have HB8 := Aside0.mk hb8
       have HR8 := Aside0.mk hr8
       have HPN := Q6.out l hw8 hl8
       clear hb8 hr8 hw8 hl8 HUN Q6 hlk
       go_wp2_with (fail)
       go_roundw
       case rel => exact ⟨j + 1, P ++ l, A8, c8, by first | rfl | simp, by go_num, by omega, HB8, HR8, HPN⟩
       case measure => simp [intOf]; omega
      ·obtain rfl : j = m := by omega
       have hW : WalkL arcs ws s r1 P a := PathF.done (ES := ES) (by rw [HMR.out]; exact HPF)
       obtain ⟨zz, hz1, hz2⟩ := hpc.hk.cost_at HY.out (hpc.hk.climbF_ok (ws := ws) (b := true) HY.out) HCC.out
       have HD0 : PathD n arcs L ws y s r2 r1 P := ⟨a, c, zz, HCC.out, hz1, hz2, hW, HAC.out.symm, by omega⟩
       clear hW hz1 hz2 HPF HEC HSTART
       go_wp2_with (fail)
       go_loopw [18, 21] (fun pv uv wr => ∃ (P2 : List Int) (A3 : Option Addr) (pc3 : Nat) (u2 : Int), pv = .slice A3 P2.length pc3 ∧ uv = .int .i64 u2 ∧ Aside0 (Below w7.heap.size w7 wr) ∧ Aside0 (Kd.R (Kd.int .i64) 3 wr w7.heap.size (fun _ => True) (.slice A3 P2.length pc3) P2) ∧ PathD n arcs L ws y s r2 u2 P2) (fun _ uv _ => rkM n L (intOf uv))
       case atStart => exact ⟨P, A2, pc, r1, rfl, rfl, HBL2, HP, HD0⟩
       case round =>
        obtain ⟨P2, A3, pc3, u2, rfl, rfl, HBL3, HP3, HPD⟩ := hrel
        have x2b := (blk_cell (blk_below HX27.out HBL3.out) 2).trans rfl
        have HV2r := Aside0.mk (HV27.out.below HBL3.out)
        rcases HPD.step hpc.hk hn HY.out with ⟨k1, k2, k3⟩ | ⟨e, x', q1, q2, q3, q4, q5, q6, q7, q8⟩
        ·have K2 := Aside0.mk k2
         have HWF : Aside0 (WalkL arcs ws s t P2 r2) := ⟨by rw [← HYT.out, ← k1]; exact k3⟩
         have HBZ := Aside0.mk (below_then HBW.out HBW.out.size HBL3.out)
         clear k1 k2 k3 HPD
         go_wp2_with (refine wp_lookup_map qKey Try.underlying94 0 zeroI_ rfl _ _ false rfl HV2r.out u2 rfl rfl (.int .i64 (-1)) (by rw [K2.out]; rfl) ?_)
         go_ret3
         exact ⟨HBZ.out, .inr ⟨x, y, HX.out, HY.out, HXS.out, HYT.out, .inr ⟨by rw [HR.out], _, P2, by rw [HR.out]; rfl, Kd.R_lower HP3.out HBW.out.size, by rw [HR.out]; exact HWF.out⟩⟩⟩
        ·have K1 := Aside0.mk q1
         have he' : e < (hierS n arcs L).edges.length := q2
         have hun := (query_unpack.calls hpc.hk hn hpc.wl hpc.wr hal HU7.out x').ap false q4 HBL3.out q2 q3 q5 HP3.out q7
         have HUN := Aside0.mk hun
         have Q8 := Aside0.mk q8
         obtain ⟨eA, ece, ma, wA, wc, h1, h2, h3, h4, h5⟩ := HU7.out.out
         obtain ⟨eb, eo, heA, ex0, _⟩ := edge_cells h2 he'
         subst heA
         have HPX := Aside0.mk h1
         have HEX := Aside0.mk ex0
         obtain ⟨f0, HF0⟩ : ∃ f, Aside0 (((hierS n arcs L).edges.getD e z58).f0 = f) := ⟨_, ⟨rfl⟩⟩
         have HF1 : Aside0 (eF n arcs L e = f0) := HF0
         rw [HF0.out] at HEX
         rw [HF1.out] at q6
         clear h1 h2 h3 h4 h5 ex0 q1 q2 q3 q4 q5 q7 q8 hun
         go_wp2_with (refine wp_lookup_map qKey Try.underlying94 0 zeroI_ rfl _ _ false rfl HV2r.out u2 rfl rfl (.int .i64 (e : Int)) (by rw [K1.out]; rfl) ?_)
         refine HUN.out.mono ?_
         rintro ev w8 ⟨v, l, rfl, hb8, hr8, hw8, hl8⟩
         obtain ⟨A8, c8, rfl⟩ := Kd.R_slice hr8
         have HB9 := Aside0.mk hb8
         have HO9 := Aside0.mk hr8
         have HPN := Q8.out l hw8 hl8
         rw [HF1.out] at HPN
         clear hb8 hr8 hw8 hl8 HUN Q8 x2b HV2r
         go_upto_region 23 with (fail)
         have c1 := (blk_cell (blk_below HPX.out HB9.out) 1).trans rfl
         have y2 := (blk_cell (blk_below HX27.out HB9.out) 2).trans rfl
         refine s_ (fun w' => w'.cell? ⟨pu, 1, none⟩ = some (.slice (some ⟨eb, eo, none⟩) (hierS n arcs L).edges.length ece) ∧ w'.cell? ⟨b14 + 1, 2, none⟩ = some (.map (some mv2)) ∧ w'.cell? ⟨eb, eo + e * 2, none⟩ = some (.int .i64 f0) ∧ MapIs (Value.int .i64) (Value.int .i64) w' mv2 (climbF n arcs L ws true y).via) [] ⟨c1, y2, pw_cell_below HB9.out HEX.out, (HV27.out.below HB9.out).drew⟩ (fun hHeld => ?_)
         have hbd : Below w8.heap.size w8 w8.drew := below_drew (Below.refl _ _)
         have HBN := Aside0.mk (below_then HB9.out HB9.out.size hbd)
         have HON := Aside0.mk (Kd.R_below HO9.out hbd)
         generalize w8.drew = w10 at HBN HON hHeld ⊢
         clear hbd c1 y2 HB9 HO9
         refine p_ 0 91 ?_
         refine p_ 1 92 ?_
         refine p_ 2 93 ?_
         refine t4_ 3 94 hHeld ?_
         refine p_ 4 95 ?_
         refine t4_ 5 96 hHeld ?_
         refine p_ 6 97 ?_
         refine t4_ 7 98 hHeld ?_ (v := .int .i64 (e : Int)) (hy := Or.inl ⟨by rfl, by rintro w' ⟨s0, s1, s2, s3⟩; refine yields_lookup0 qKey Try.underlying94 0 zeroI_ (.tmp 96) (.tmp 97) s3 u2 ?_ ?_ ?_ ?_ <;> first | rfl | (rw [K1.out]; rfl)⟩)
         refine p_ 8 99 ?_
         refine p_ 9 100 ?_
         refine t4_ 10 101 hHeld ?_
         refine p_ 11 21 ?_
         refine d_ ?_
         clear hHeld
         go_wp2_with (fail)
         go_roundw
         case rel => exact ⟨P2 ++ l, A8, c8, f0, by first | rfl | simp, rfl, HBN, HON, HPN⟩
         case measure => exact q6
    ·have K1 := Aside0.mk k1
     have he' : e < (hierS n arcs L).edges.length := k2
     obtain ⟨eA, ece, ma, wA, wc, h1, h2, h3, h4, h5⟩ := HU.out.out
     obtain ⟨eb, eo, heA, ex0, _⟩ := edge_cells h2 he'
     subst heA
     have HPX := Aside0.mk h1
     have HEX := Aside0.mk ex0
     obtain ⟨f0, HF0⟩ : ∃ f, Aside0 (((hierS n arcs L).edges.getD e z58).f0 = f) := ⟨_, ⟨rfl⟩⟩
     have HF1 : Aside0 (eF n arcs L e = f0) := HF0
     rw [HF0.out] at HEX
     rw [HF1.out] at k3 k4
     clear h1 h2 h3 h4 h5 ex0 k1 k2
     go_upto_region 13 with (refine wp_lookup_map qKey Try.underlying94 0 zeroI_ rfl _ _ false rfl HV1r.out u rfl rfl (.int .i64 (e : Int)) (by rw [K1.out]; rfl) ?_)
     go_upto_region 12 with (first
      | (refine wp_lookup_map qKey Try.underlying94 0 zeroI_ rfl _ _ false rfl HV1r.out u rfl rfl (.int .i64 (e : Int)) (by rw [K1.out]; rfl) ?_)
      | (refine Kd.R_append (Kd.int .i64) (w0 := w6) w6.heap.size (by rfl) (.tmp 65) (.tmp 70) 25 3 (.int .i64 0) 8 rfl Try.underlying25 info3 rfl (by decide) (by omega) (.slice A E.length ec) E (e : Int) [.int .i64 (e : Int)] (fun _ => True) (fun _ => False) rfl rfl ?aP (fun _ hk => hk.elim) ?aF ?aO ?aB ?aS ?aL ?_
         (case aP => exact rfl)
         (case aF => exact (fun _ _ => trivial))
         (case aO => exact Kd.R_mono HE.out (fun _ _ => trivial))
         (case aB => exact HBL.out)
         (case aS => exact HBL.out.size)
         (case aL => omega)
         intro v9 w9 ho hb hg hat
         obtain ⟨A9, c9, rfl⟩ := Kd.R_slice ho
         have HO9 := Aside0.mk ho
         have HB9 := Aside0.mk hb
         clear ho hb hg hat))
     have c1 := (blk_cell (blk_below HPX.out HB9.out) 1).trans rfl
     have y2 := (blk_cell (blk_below HX1.out HB9.out) 2).trans rfl
     refine s_ (fun w' => w'.cell? ⟨pu, 1, none⟩ = some (.slice (some ⟨eb, eo, none⟩) (hierS n arcs L).edges.length ece) ∧ w'.cell? ⟨b14, 2, none⟩ = some (.map (some mv1)) ∧ w'.cell? ⟨eb, eo + e * 2, none⟩ = some (.int .i64 f0) ∧ MapIs (Value.int .i64) (Value.int .i64) w' mv1 (climbF n arcs L ws false x).via) [] ⟨c1, y2, pw_cell_below HB9.out HEX.out, (HV1.out.below HB9.out).drew⟩ (fun hHeld => ?_)
     have hbd : Below w9.heap.size w9 w9.drew := below_drew (Below.refl _ _)
     have HBN := Aside0.mk (below_then HB9.out HB9.out.size hbd)
     have HON := Aside0.mk (Kd.R_below HO9.out hbd)
     generalize w9.drew = w10 at HBN HON hHeld ⊢
     clear hbd c1 y2 x2 HB9 HO9
     refine p_ 0 54 ?_
     refine p_ 1 55 ?_
     refine p_ 2 56 ?_
     refine t4_ 3 57 hHeld ?_
     refine p_ 4 58 ?_
     refine t4_ 5 59 hHeld ?_
     refine p_ 6 60 ?_
     refine t4_ 7 61 hHeld ?_ (v := .int .i64 (e : Int)) (hy := Or.inl ⟨by rfl, by rintro w' ⟨s0, s1, s2, s3⟩; refine yields_lookup0 qKey Try.underlying94 0 zeroI_ (.tmp 59) (.tmp 60) s3 u ?_ ?_ ?_ ?_ <;> first | rfl | (rw [K1.out]; rfl)⟩)
     refine p_ 8 62 ?_
     refine p_ 9 63 ?_
     refine t4_ 10 64 hHeld ?_
     refine p_ 11 17 ?_
     refine d_ ?_
     clear hHeld
     go_wp2_with (fail)
     go_roundw
     case rel => exact ⟨E ++ [(e : Int)], A9, c9, f0, by simp, rfl, HBN, HON, k3⟩
     case measure => exact k4
end Go.Proofs.Ytfnophaiamkmpaa.Print
namespace Go.Proofs.Ytfnophaiamkmpaa.Print
open Go.RowKit Go.Proofs.YtfnophaiamkmpaaW.PrintWords Go.Proofs.YtfnophaiamkmpaaW.PrintLast Go.Proofs.YtfnophaiamkmpaaW.PrintMore
attribute [local go_sem] max2_int min2_int max_two min_two max_three min_three max_four min_four   -- for this text's walks alone
set_option linter.unusedVariables false
set_option linter.unusedSimpArgs false

/-! ### mapmakerlaw42_valid: function 14 -/
def mapmakerlaw42_valid.f (k : Nat) (a0_0 : Int) (l0_1 : List (S58)) (l0_2 : List Int) (l0_3 : List Int) : Option (Bool) := if a0_0 ≤ 12 then (if (l0_1.length : Int) ≤ 40 then (if (l0_2.length : Int) ≤ 12 then (if (l0_3.length : Int) ≤ 40 then ((mapmakerref38_Check.f k a0_0 l0_1 l0_3).bind fun t113 => (if t113 = 0 then ((mapmakerref39_Check.f k a0_0 l0_2).bind fun t114 => (some (t114 == 0))) else (some false))) else (some false)) else (some false)) else (some false)) else (some false)
set_option maxHeartbeats 8000000 in
set_option maxRecDepth 100000 in
theorem mapmakerlaw42_valid.calls (k : Nat) (a0_0 : Int) (A0_1 : Option Addr) (c0_1 : Nat) (l0_1 : List (S58)) (A0_2 : Option Addr) (c0_2 : Nat) (l0_2 : List Int) (A0_3 : Option Addr) (c0_3 : Nat) (l0_3 : List Int) (r : Bool) (w : World) (hr0_1 : Kd.C k58 w A0_1 l0_1.length l0_1) (hc0_1 : l0_1.length ≤ c0_1) (hr0_2 : Kd.C (Kd.int .i64) w A0_2 l0_2.length l0_2) (hc0_2 : l0_2.length ≤ c0_2) (hr0_3 : Kd.C (Kd.int .i64) w A0_3 l0_3.length l0_3) (hc0_3 : l0_3.length ≤ c0_3) (h : mapmakerlaw42_valid.f k a0_0 l0_1 l0_2 l0_3 = some r) :
  Calls Try.prog 14 #[.agg #[.int .i64 a0_0, .slice A0_1 l0_1.length c0_1, .slice A0_2 l0_2.length c0_2, .slice A0_3 l0_3.length c0_3]] w fun e w' => e = .returned (.bool r) ∧ Below w.heap.size w w' := by
 have hu27 := Try.underlying27; have hu24 := Try.underlying24; have HR0_1 := Aside0.mk hr0_1; have HC0_1 := Aside0.mk hc0_1; clear hr0_1 hc0_1; have HR0_2 := Aside0.mk hr0_2; have HC0_2 := Aside0.mk hc0_2; clear hr0_2 hc0_2; have HR0_3 := Aside0.mk hr0_3; have HC0_3 := Aside0.mk hc0_3; clear hr0_3 hc0_3; have HB := Aside0.mk (Below.refl w.heap.size w)
 have H : (if a0_0 ≤ 12 then (if (l0_1.length : Int) ≤ 40 then (if (l0_2.length : Int) ≤ 12 then (if (l0_3.length : Int) ≤ 40 then ((mapmakerref38_Check.f k a0_0 l0_1 l0_3).bind fun t113 => (if t113 = 0 then ((mapmakerref39_Check.f k a0_0 l0_2).bind fun t114 => (some (t114 == 0))) else (some false))) else (some false)) else (some false)) else (some false)) else (some false)) = some r := h
 clear h
 by_cases c2 : a0_0 ≤ 12
 ·rw [if_pos c2] at H
  have c2b0 : decide (a0_0 ≤ 12) = true := decide_eq_true c2
  clear c2
  by_cases c3 : (l0_1.length : Int) ≤ 40
  ·rw [if_pos c3] at H
   have c3b0 : decide ((l0_1.length : Int) ≤ 40) = true := decide_eq_true c3
   have c3b1 : decide (l0_1.length ≤ 40) = true := decide_eq_true (by omega)
   clear c3
   by_cases c4 : (l0_2.length : Int) ≤ 12
   ·rw [if_pos c4] at H
    have c4b0 : decide ((l0_2.length : Int) ≤ 12) = true := decide_eq_true c4
    have c4b1 : decide (l0_2.length ≤ 12) = true := decide_eq_true (by omega)
    clear c4
    by_cases c5 : (l0_3.length : Int) ≤ 40
    ·rw [if_pos c5] at H
     have c5b0 : decide ((l0_3.length : Int) ≤ 40) = true := decide_eq_true c5
     have c5b1 : decide (l0_3.length ≤ 40) = true := decide_eq_true (by omega)
     clear c5
     replace H := Option.bind_eq_some_iff.mp H
     obtain ⟨t113, A60, H⟩ := H
     replace H : (if t113 = 0 then ((mapmakerref39_Check.f k a0_0 l0_2).bind fun t114 => (some (t114 == 0))) else (some false)) = some r := H
     have A6 := Aside0.mk A60; clear A60
     by_cases c7 : t113 = 0
     ·rw [if_pos c7] at H
      have c7b0 : (t113 == 0) = true := beq_iff_eq.mpr c7
      have c7b1 : (t113 != 0) = false := bne_eq_false_iff_eq.mpr c7
      clear c7
      replace H := Option.bind_eq_some_iff.mp H
      obtain ⟨t114, A80, H⟩ := H
      replace H : (some (t114 == 0)) = some r := H
      have A8 := Aside0.mk A80; clear A80
      obtain rfl := Option.some.inj H
      go_enter Try.func14, Try.ntmps14
      go_wp2_with (first | ((with_reducible refine gate_dst (N := 1) rfl ?_); (try (refine gate_guard (by rfl) ?_; dsimp only)); refine box_event ?hg (N := 1) ?hd (cs := #[.int .i64 a0_0, .slice A0_1 l0_1.length c0_1, .slice A0_2 l0_2.length c0_2, .slice A0_3 l0_3.length c0_3]) (t := 27) ?hr ?_; (case hd => rfl); (case hg => rfl); (case hr => first | (go_simp; done) | (go_simp; rfl)); intro gb112 hg w9 hbox hb; have n0_ := Aside0.mk (below_step (byB HB.out) hb); have n1_ := Aside0.mk (hbox); have n2_ := Aside0.mk ((by rw [hg]; exact (below_size (byB HB.out)) : w.heap.size ≤ gb112)); have n3_ := Aside0.mk ((by rw [hg]; exact (below_size (byB HB.out)) : w.heap.size ≤ gb112)); clear HB; have HB := n0_; have BK112 := n1_; have GW112 := n2_; have GE112 := n3_; clear n0_ n1_ n2_ n3_ hb hbox hg; have hcz10_0 : w9.cell? ⟨gb112, 0, none⟩ = some (.int .i64 a0_0) := (blk_cell BK112.out 0).trans rfl; have hcz10_1 : w9.cell? ⟨gb112, 1, none⟩ = some (.slice A0_1 l0_1.length c0_1) := (blk_cell BK112.out 1).trans rfl; have hcz10_2 : w9.cell? ⟨gb112, 2, none⟩ = some (.slice A0_2 l0_2.length c0_2) := (blk_cell BK112.out 2).trans rfl; have hcz10_3 : w9.cell? ⟨gb112, 3, none⟩ = some (.slice A0_3 l0_3.length c0_3) := (blk_cell BK112.out 3).trans rfl; have hfz10_0 := blk_frozen BK112.out 0; have hfz10_1 := blk_frozen BK112.out 1; have hfz10_2 := blk_frozen BK112.out 2; have hfz10_3 := blk_frozen BK112.out 3) | (go_at_call 30; (with_reducible refine (mapmakerref38_Check.calls k a0_0 _ _ l0_1 _ _ l0_3 t113 _ ?side1 ?side2 ?side3 ?side4 A6.out).mono ?_); (case side1 => exact byC (Kd.C_below HR0_1.out HB.out)); (case side2 => exact HC0_1.out); (case side3 => exact byC (Kd.C_below HR0_3.out HB.out)); (case side4 => exact HC0_3.out); rintro e w11 ⟨rfl, hb⟩; have n0_ := Aside0.mk (blk_below (g := gb112) (o := .cells #[.int .i64 a0_0, .slice A0_1 l0_1.length c0_1, .slice A0_2 l0_2.length c0_2, .slice A0_3 l0_3.length c0_3] 27 (0, 0)) (byK BK112.out) hb); have n1_ := Aside0.mk (below_step (byB1 HB.out GE112.out) hb); clear BK112 HB; have BK112 := n0_; have HB := n1_; clear n0_ n1_; (try clear hb); (try clear hb2); (try clear hk); (try clear hi); have hcz12_0 : w11.cell? ⟨gb112, 0, none⟩ = some (.int .i64 a0_0) := (blk_cell BK112.out 0).trans rfl; have hcz12_1 : w11.cell? ⟨gb112, 1, none⟩ = some (.slice A0_1 l0_1.length c0_1) := (blk_cell BK112.out 1).trans rfl; have hcz12_2 : w11.cell? ⟨gb112, 2, none⟩ = some (.slice A0_2 l0_2.length c0_2) := (blk_cell BK112.out 2).trans rfl; have hcz12_3 : w11.cell? ⟨gb112, 3, none⟩ = some (.slice A0_3 l0_3.length c0_3) := (blk_cell BK112.out 3).trans rfl; have hfz12_0 := blk_frozen BK112.out 0; have hfz12_1 := blk_frozen BK112.out 1; have hfz12_2 := blk_frozen BK112.out 2; have hfz12_3 := blk_frozen BK112.out 3) | (go_at_call 44; (with_reducible refine (mapmakerref39_Check.calls k a0_0 _ _ l0_2 t114 _ ?side1 ?side2 A8.out).mono ?_); (case side1 => exact byC (Kd.C_below HR0_2.out HB.out)); (case side2 => exact HC0_2.out); rintro e w' ⟨rfl, ⟨nd, rfl⟩⟩))
      go_ret
      exact ⟨by first | rfl | (simp [errW_none, errW_some] <;> rfl) | (simp [*, errW_none, errW_some] <;> rfl), by repeat (first | (with_reducible first | exact HB.out | apply below_alloc | apply pw_below_drewN | apply below_drew1 | refine below_set ?_ GE112.out) | exact HB.out)⟩
     ·rw [if_neg c7] at H
      have c7b0 : (t113 == 0) = false := beq_eq_false_iff_ne.mpr c7
      have c7b1 : (t113 != 0) = true := bne_iff_ne.mpr c7
      obtain rfl := Option.some.inj H
      go_enter Try.func14, Try.ntmps14
      go_wp2_with (first | ((with_reducible refine gate_dst (N := 1) rfl ?_); (try (refine gate_guard (by rfl) ?_; dsimp only)); refine box_event ?hg (N := 1) ?hd (cs := #[.int .i64 a0_0, .slice A0_1 l0_1.length c0_1, .slice A0_2 l0_2.length c0_2, .slice A0_3 l0_3.length c0_3]) (t := 27) ?hr ?_; (case hd => rfl); (case hg => rfl); (case hr => first | (go_simp; done) | (go_simp; rfl)); intro gb112 hg w13 hbox hb; have n0_ := Aside0.mk (below_step (byB HB.out) hb); have n1_ := Aside0.mk (hbox); have n2_ := Aside0.mk ((by rw [hg]; exact (below_size (byB HB.out)) : w.heap.size ≤ gb112)); have n3_ := Aside0.mk ((by rw [hg]; exact (below_size (byB HB.out)) : w.heap.size ≤ gb112)); clear HB; have HB := n0_; have BK112 := n1_; have GW112 := n2_; have GE112 := n3_; clear n0_ n1_ n2_ n3_ hb hbox hg; have hcz14_0 : w13.cell? ⟨gb112, 0, none⟩ = some (.int .i64 a0_0) := (blk_cell BK112.out 0).trans rfl; have hcz14_1 : w13.cell? ⟨gb112, 1, none⟩ = some (.slice A0_1 l0_1.length c0_1) := (blk_cell BK112.out 1).trans rfl; have hcz14_2 : w13.cell? ⟨gb112, 2, none⟩ = some (.slice A0_2 l0_2.length c0_2) := (blk_cell BK112.out 2).trans rfl; have hcz14_3 : w13.cell? ⟨gb112, 3, none⟩ = some (.slice A0_3 l0_3.length c0_3) := (blk_cell BK112.out 3).trans rfl; have hfz14_0 := blk_frozen BK112.out 0; have hfz14_1 := blk_frozen BK112.out 1; have hfz14_2 := blk_frozen BK112.out 2; have hfz14_3 := blk_frozen BK112.out 3) | (go_at_call 30; (with_reducible refine (mapmakerref38_Check.calls k a0_0 _ _ l0_1 _ _ l0_3 t113 _ ?side1 ?side2 ?side3 ?side4 A6.out).mono ?_); (case side1 => exact byC (Kd.C_below HR0_1.out HB.out)); (case side2 => exact HC0_1.out); (case side3 => exact byC (Kd.C_below HR0_3.out HB.out)); (case side4 => exact HC0_3.out); rintro e w15 ⟨rfl, hb⟩; have n0_ := Aside0.mk (blk_below (g := gb112) (o := .cells #[.int .i64 a0_0, .slice A0_1 l0_1.length c0_1, .slice A0_2 l0_2.length c0_2, .slice A0_3 l0_3.length c0_3] 27 (0, 0)) (byK BK112.out) hb); have n1_ := Aside0.mk (below_step (byB1 HB.out GE112.out) hb); clear BK112 HB; have BK112 := n0_; have HB := n1_; clear n0_ n1_; (try clear hb); (try clear hb2); (try clear hk); (try clear hi)))
      go_ret
      exact ⟨by first | rfl | (simp [errW_none, errW_some] <;> rfl) | (simp [*, errW_none, errW_some] <;> rfl), by repeat (first | (with_reducible first | exact HB.out | apply below_alloc | apply pw_below_drewN | apply below_drew1 | refine below_set ?_ GE112.out) | exact HB.out)⟩
    ·rw [if_neg c5] at H
     have c5b0 : decide ((l0_3.length : Int) ≤ 40) = false := decide_eq_false c5
     have c5b1 : decide (l0_3.length ≤ 40) = false := decide_eq_false (by omega)
     clear c5
     obtain rfl := Option.some.inj H
     go_enter Try.func14, Try.ntmps14
     go_wp2_with (first | ((with_reducible refine gate_dst (N := 1) rfl ?_); (try (refine gate_guard (by rfl) ?_; dsimp only)); refine box_event ?hg (N := 1) ?hd (cs := #[.int .i64 a0_0, .slice A0_1 l0_1.length c0_1, .slice A0_2 l0_2.length c0_2, .slice A0_3 l0_3.length c0_3]) (t := 27) ?hr ?_; (case hd => rfl); (case hg => rfl); (case hr => first | (go_simp; done) | (go_simp; rfl)); intro gb112 hg w16 hbox hb; have n0_ := Aside0.mk (below_step (byB HB.out) hb); have n1_ := Aside0.mk (hbox); have n2_ := Aside0.mk ((by rw [hg]; exact (below_size (byB HB.out)) : w.heap.size ≤ gb112)); have n3_ := Aside0.mk ((by rw [hg]; exact (below_size (byB HB.out)) : w.heap.size ≤ gb112)); clear HB; have HB := n0_; have BK112 := n1_; have GW112 := n2_; have GE112 := n3_; clear n0_ n1_ n2_ n3_ hb hbox hg; have hcz17_0 : w16.cell? ⟨gb112, 0, none⟩ = some (.int .i64 a0_0) := (blk_cell BK112.out 0).trans rfl; have hcz17_1 : w16.cell? ⟨gb112, 1, none⟩ = some (.slice A0_1 l0_1.length c0_1) := (blk_cell BK112.out 1).trans rfl; have hcz17_2 : w16.cell? ⟨gb112, 2, none⟩ = some (.slice A0_2 l0_2.length c0_2) := (blk_cell BK112.out 2).trans rfl; have hcz17_3 : w16.cell? ⟨gb112, 3, none⟩ = some (.slice A0_3 l0_3.length c0_3) := (blk_cell BK112.out 3).trans rfl; have hfz17_0 := blk_frozen BK112.out 0; have hfz17_1 := blk_frozen BK112.out 1; have hfz17_2 := blk_frozen BK112.out 2; have hfz17_3 := blk_frozen BK112.out 3))
     go_ret
     exact ⟨by first | rfl | (simp [errW_none, errW_some] <;> rfl) | (simp [*, errW_none, errW_some] <;> rfl), by repeat (first | (with_reducible first | exact HB.out | apply below_alloc | apply pw_below_drewN | apply below_drew1 | refine below_set ?_ GE112.out) | exact HB.out)⟩
   ·rw [if_neg c4] at H
    have c4b0 : decide ((l0_2.length : Int) ≤ 12) = false := decide_eq_false c4
    have c4b1 : decide (l0_2.length ≤ 12) = false := decide_eq_false (by omega)
    clear c4
    obtain rfl := Option.some.inj H
    go_enter Try.func14, Try.ntmps14
    go_wp2_with (first | ((with_reducible refine gate_dst (N := 1) rfl ?_); (try (refine gate_guard (by rfl) ?_; dsimp only)); refine box_event ?hg (N := 1) ?hd (cs := #[.int .i64 a0_0, .slice A0_1 l0_1.length c0_1, .slice A0_2 l0_2.length c0_2, .slice A0_3 l0_3.length c0_3]) (t := 27) ?hr ?_; (case hd => rfl); (case hg => rfl); (case hr => first | (go_simp; done) | (go_simp; rfl)); intro gb112 hg w18 hbox hb; have n0_ := Aside0.mk (below_step (byB HB.out) hb); have n1_ := Aside0.mk (hbox); have n2_ := Aside0.mk ((by rw [hg]; exact (below_size (byB HB.out)) : w.heap.size ≤ gb112)); have n3_ := Aside0.mk ((by rw [hg]; exact (below_size (byB HB.out)) : w.heap.size ≤ gb112)); clear HB; have HB := n0_; have BK112 := n1_; have GW112 := n2_; have GE112 := n3_; clear n0_ n1_ n2_ n3_ hb hbox hg; have hcz19_0 : w18.cell? ⟨gb112, 0, none⟩ = some (.int .i64 a0_0) := (blk_cell BK112.out 0).trans rfl; have hcz19_1 : w18.cell? ⟨gb112, 1, none⟩ = some (.slice A0_1 l0_1.length c0_1) := (blk_cell BK112.out 1).trans rfl; have hcz19_2 : w18.cell? ⟨gb112, 2, none⟩ = some (.slice A0_2 l0_2.length c0_2) := (blk_cell BK112.out 2).trans rfl; have hcz19_3 : w18.cell? ⟨gb112, 3, none⟩ = some (.slice A0_3 l0_3.length c0_3) := (blk_cell BK112.out 3).trans rfl; have hfz19_0 := blk_frozen BK112.out 0; have hfz19_1 := blk_frozen BK112.out 1; have hfz19_2 := blk_frozen BK112.out 2; have hfz19_3 := blk_frozen BK112.out 3))
    go_ret
    exact ⟨by first | rfl | (simp [errW_none, errW_some] <;> rfl) | (simp [*, errW_none, errW_some] <;> rfl), by repeat (first | (with_reducible first | exact HB.out | apply below_alloc | apply pw_below_drewN | apply below_drew1 | refine below_set ?_ GE112.out) | exact HB.out)⟩
  ·rw [if_neg c3] at H
   have c3b0 : decide ((l0_1.length : Int) ≤ 40) = false := decide_eq_false c3
   have c3b1 : decide (l0_1.length ≤ 40) = false := decide_eq_false (by omega)
   clear c3
   obtain rfl := Option.some.inj H
   go_enter Try.func14, Try.ntmps14
   go_wp2_with (first | ((with_reducible refine gate_dst (N := 1) rfl ?_); (try (refine gate_guard (by rfl) ?_; dsimp only)); refine box_event ?hg (N := 1) ?hd (cs := #[.int .i64 a0_0, .slice A0_1 l0_1.length c0_1, .slice A0_2 l0_2.length c0_2, .slice A0_3 l0_3.length c0_3]) (t := 27) ?hr ?_; (case hd => rfl); (case hg => rfl); (case hr => first | (go_simp; done) | (go_simp; rfl)); intro gb112 hg w20 hbox hb; have n0_ := Aside0.mk (below_step (byB HB.out) hb); have n1_ := Aside0.mk (hbox); have n2_ := Aside0.mk ((by rw [hg]; exact (below_size (byB HB.out)) : w.heap.size ≤ gb112)); have n3_ := Aside0.mk ((by rw [hg]; exact (below_size (byB HB.out)) : w.heap.size ≤ gb112)); clear HB; have HB := n0_; have BK112 := n1_; have GW112 := n2_; have GE112 := n3_; clear n0_ n1_ n2_ n3_ hb hbox hg; have hcz21_0 : w20.cell? ⟨gb112, 0, none⟩ = some (.int .i64 a0_0) := (blk_cell BK112.out 0).trans rfl; have hcz21_1 : w20.cell? ⟨gb112, 1, none⟩ = some (.slice A0_1 l0_1.length c0_1) := (blk_cell BK112.out 1).trans rfl; have hcz21_2 : w20.cell? ⟨gb112, 2, none⟩ = some (.slice A0_2 l0_2.length c0_2) := (blk_cell BK112.out 2).trans rfl; have hcz21_3 : w20.cell? ⟨gb112, 3, none⟩ = some (.slice A0_3 l0_3.length c0_3) := (blk_cell BK112.out 3).trans rfl; have hfz21_0 := blk_frozen BK112.out 0; have hfz21_1 := blk_frozen BK112.out 1; have hfz21_2 := blk_frozen BK112.out 2; have hfz21_3 := blk_frozen BK112.out 3))
   go_ret
   exact ⟨by first | rfl | (simp [errW_none, errW_some] <;> rfl) | (simp [*, errW_none, errW_some] <;> rfl), by repeat (first | (with_reducible first | exact HB.out | apply below_alloc | apply pw_below_drewN | apply below_drew1 | refine below_set ?_ GE112.out) | exact HB.out)⟩
 ·rw [if_neg c2] at H
  have c2b0 : decide (a0_0 ≤ 12) = false := decide_eq_false c2
  clear c2
  obtain rfl := Option.some.inj H
  go_enter Try.func14, Try.ntmps14
  go_wp2_with (first | ((with_reducible refine gate_dst (N := 1) rfl ?_); (try (refine gate_guard (by rfl) ?_; dsimp only)); refine box_event ?hg (N := 1) ?hd (cs := #[.int .i64 a0_0, .slice A0_1 l0_1.length c0_1, .slice A0_2 l0_2.length c0_2, .slice A0_3 l0_3.length c0_3]) (t := 27) ?hr ?_; (case hd => rfl); (case hg => rfl); (case hr => first | (go_simp; done) | (go_simp; rfl)); intro gb112 hg w22 hbox hb; have n0_ := Aside0.mk (below_step (byB HB.out) hb); have n1_ := Aside0.mk (hbox); have n2_ := Aside0.mk ((by rw [hg]; exact (below_size (byB HB.out)) : w.heap.size ≤ gb112)); have n3_ := Aside0.mk ((by rw [hg]; exact (below_size (byB HB.out)) : w.heap.size ≤ gb112)); clear HB; have HB := n0_; have BK112 := n1_; have GW112 := n2_; have GE112 := n3_; clear n0_ n1_ n2_ n3_ hb hbox hg; have hcz23_0 : w22.cell? ⟨gb112, 0, none⟩ = some (.int .i64 a0_0) := (blk_cell BK112.out 0).trans rfl; have hcz23_1 : w22.cell? ⟨gb112, 1, none⟩ = some (.slice A0_1 l0_1.length c0_1) := (blk_cell BK112.out 1).trans rfl; have hcz23_2 : w22.cell? ⟨gb112, 2, none⟩ = some (.slice A0_2 l0_2.length c0_2) := (blk_cell BK112.out 2).trans rfl; have hcz23_3 : w22.cell? ⟨gb112, 3, none⟩ = some (.slice A0_3 l0_3.length c0_3) := (blk_cell BK112.out 3).trans rfl; have hfz23_0 := blk_frozen BK112.out 0; have hfz23_1 := blk_frozen BK112.out 1; have hfz23_2 := blk_frozen BK112.out 2; have hfz23_3 := blk_frozen BK112.out 3))
  go_ret
  exact ⟨by first | rfl | (simp [errW_none, errW_some] <;> rfl) | (simp [*, errW_none, errW_some] <;> rfl), by repeat (first | (with_reducible first | exact HB.out | apply below_alloc | apply pw_below_drewN | apply below_drew1 | refine below_set ?_ GE112.out) | exact HB.out)⟩

end Go.Proofs.Ytfnophaiamkmpaa.Print
