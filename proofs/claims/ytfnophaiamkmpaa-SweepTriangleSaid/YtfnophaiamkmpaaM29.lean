/- Several texts of this claim in one: HQPathW, HQSetup, HQUpl, HQMt, HQDistF, HSw, HP37a, HSRf, HSIns. -/
import Derived.Test.YtfnophaiamkmpaaM25
import Derived.Test.YtfnophaiamkmpaaM21
import Derived.Test.YtfnophaiamkmpaaPrint0
import Derived.Test.YtfnophaiamkmpaaM9
import Derived.Test.YtfnophaiamkmpaaM1
import Derived.Test.YtfnophaiamkmpaaM28
import Derived.Test.YtfnophaiamkmpaaEq0
import Derived.Test.YtfnophaiamkmpaaM3
import Derived.Shelf.SlSortCmp.InsertionK
namespace Go.Proofs.Ytfnophaiamkmpaa.Print
open Go.RowKit Go.Proofs.YtfnophaiamkmpaaW.PrintWords Go.Proofs.YtfnophaiamkmpaaW.PrintLast Go.Proofs.YtfnophaiamkmpaaW.PrintMore
set_option linter.unusedVariables false
set_option linter.unusedSimpArgs false
def rkM (n : Nat) (L : List Int) (v : Int) : Nat := (rankS n (ranksTo L L.length) v).toNat
theorem Hk.rkM_at {n : Nat} {arcs : List S58} {L : List Int} (h : Hk n arcs L) {y : Nat} (hy : y < n) : rkM n L (L.getD y 0) = y := by
 unfold rkM
 rw [h.rank_of hy, Int.toNat_natCast]
structure PathC (n : Nat) (arcs : List S58) (L ws : List Int) (q p : Nat) : Prop where
 hk : Hk n arcs L
 hn : n ≤ 20
 wl : ws.length = arcs.length
 wr : ∀ i, i < ws.length → ws.getD i 0 ≤ 1073741824
 al : arcs.length ≤ 1000000
structure PathU (n : Nat) (arcs : List S58) (L ws : List Int) (x : Nat) (v a u : Int) (E : List Int) : Prop where
 out : ∃ (cu : Int) (z zv : Nat), mget (climbF n arcs L ws false x).cost u = some cu ∧ z < n ∧ u = L.getD z 0 ∧ UpL n arcs L ws false u v E.reverse (a - cu) ∧ zv < n ∧ E.length + z ≤ zv
theorem PathU.start {n : Nat} {arcs : List S58} {L ws : List Int} {x : Nat} {v a : Int} (h : Hk n arcs L) (hx : x < n) (hc : mget (climbF n arcs L ws false x).cost v = some a) : PathU n arcs L ws x v a v [] := by
 obtain ⟨z, hz, hz2⟩ := h.cost_at hx (h.climbF_ok (ws := ws) (b := false) hx) hc
 exact ⟨a, z, z, hc, hz, hz2, by rw [show a - a = 0 by omega]; exact UpL.nil v, hz, by simp⟩
theorem PathU.step {n : Nat} {arcs : List S58} {L ws : List Int} {x : Nat} {v a u : Int} {E : List Int} (h : Hk n arcs L) (hx : x < n) (hU : PathU n arcs L ws x v a u E) :
  (u = L.getD x 0 ∧ mget (climbF n arcs L ws false x).via u = some (-1) ∧ UpL n arcs L ws false u v E.reverse a) ∨ ∃ e : Nat, mget (climbF n arcs L ws false x).via u = some (e : Int) ∧ e < eL n arcs L ∧ PathU n arcs L ws x v a (eF n arcs L e) (E ++ [(e : Int)]) ∧ rkM n L (eF n arcs L e) < rkM n L u ∧ E.length ≤ 20 + n := by
 obtain ⟨cu, z, zv, h1, h2, h3, h4, h5, h6⟩ := hU.out
 rcases h.via_step hx (h.climbF_ok (ws := ws) (b := false) hx) h1 with ⟨k1, k2, k3⟩ | ⟨e, y, z', c0, k1, k2, k3, k4, k5, k6, k7, k8, k9, k10⟩
 ·subst k2
  rw [Int.sub_zero] at h4
  exact .inl ⟨k1, k3, h4⟩
 ·have ez : z' = z := ord_inj h.ord k8 h2 (by rw [← k10, ← h3])
  subst ez
  refine .inr ⟨e, k1, k2, ⟨c0, y, zv, k4, by omega, k9, ?_, h5, by rw [List.length_append]; simp; omega⟩, ?_, by omega⟩
  ·rw [List.reverse_append]
   show UpL n arcs L ws false (eF n arcs L e) v ((e : Int) :: E.reverse) (a - c0)
   rw [show a - c0 = wtS n arcs L ws false e + (a - cu) by omega]
   exact UpL.cons e k2 rfl k6 (by rw [k3]; exact h4)
  ·rw [k9, h3, h.rkM_at (show y < n by omega), h.rkM_at k8]
   exact k7
structure PathF (n : Nat) (arcs : List S58) (L ws : List Int) (s v a : Int) (ES : List Int) (j : Nat) (P : List Int) : Prop where
 out : ∃ (u c1 c2 : Int), WalkL arcs ws s u P c1 ∧ UpL n arcs L ws false u v (ES.drop j) c2 ∧ c1 + c2 = a ∧ P.length ≤ j * 1048576 ∧ j ≤ ES.length
section
variable {n : Nat} {arcs : List S58} {L ws : List Int}
theorem PathF.start {s v a : Int} {ES : List Int} (h : UpL n arcs L ws false s v ES a) : PathF n arcs L ws s v a ES 0 [] := ⟨s, 0, a, WalkL.nil s, h, by omega, by simp, by omega⟩
theorem PathF.done {s v a : Int} {ES P : List Int} (h : PathF n arcs L ws s v a ES ES.length P) : WalkL arcs ws s v P a := by
 obtain ⟨u, c1, c2, h1, h2, h3, _⟩ := h.out
 rw [List.drop_length] at h2
 cases h2
 rw [← h3, Int.add_zero]
 exact h1
theorem PathF.step {s v a : Int} {ES P : List Int} {j : Nat} (hk : Hk n arcs L) (hn : n ≤ 20) (h : PathF n arcs L ws s v a ES j P) (hj : j < ES.length) : ∃ e x' : Nat, ES.getD j 0 = (e : Int) ∧ e < eL n arcs L ∧ eF n arcs L e = L.getD x' 0 ∧ x' < n ∧ wtS n arcs L ws false e < mInf ∧ ∀ l, WalkL arcs ws (eF n arcs L e) (eT n arcs L e) l (wtS n arcs L ws false e) → l.length ≤ 2 ^ x' → PathF n arcs L ws s v a ES (j + 1) (P ++ l) := by
 obtain ⟨u, c1, c2, h1, h2, h3, h4, _⟩ := h.out
 rw [List.drop_eq_getElem_cons hj] at h2
 generalize hd : ES.drop (j + 1) = D at h2
 generalize hx : ES[j] = ej at h2
 cases h2 with
 | @cons _ _ c l e he h0 hw h5 =>
  obtain ⟨x1, x2, q1, q2, q3, q4, _⟩ := hk.edge_rk he
  refine ⟨e, x1, by rw [getD_at hj]; exact hx, he, q3, by omega, hw, fun l hl hll => ?_⟩
  have hp : 2 ^ x1 ≤ 2 ^ 20 := Nat.pow_le_pow_right (by decide) (by omega)
  rw [h0] at hl
  refine ⟨_, _, c, h1.append hl, by rw [hd]; exact h5, by omega, ?_, by omega⟩
  rw [List.length_append]
  have : (j + 1) * 1048576 = j * 1048576 + 1048576 := by omega
  omega
structure PathD (n : Nat) (arcs : List S58) (L ws : List Int) (y : Nat) (s tot u : Int) (P : List Int) : Prop where
 out : ∃ (c1 cu : Int) (z : Nat), mget (climbF n arcs L ws true y).cost u = some cu ∧ z < n ∧ u = L.getD z 0 ∧ WalkL arcs ws s u P c1 ∧ c1 + cu = tot ∧ P.length + z * 1048576 ≤ 100000000
theorem PathD.step {y : Nat} {s tot u : Int} {P : List Int} (hk : Hk n arcs L) (hn : n ≤ 20) (hy : y < n) (h : PathD n arcs L ws y s tot u P) :
  (u = L.getD y 0 ∧ mget (climbF n arcs L ws true y).via u = some (-1) ∧ WalkL arcs ws s u P tot) ∨ ∃ e x' : Nat, mget (climbF n arcs L ws true y).via u = some (e : Int) ∧ e < eL n arcs L ∧ eF n arcs L e = L.getD x' 0 ∧ x' < n ∧ wtS n arcs L ws true e < mInf ∧ rkM n L (eF n arcs L e) < rkM n L u ∧ P.length + 2 ^ x' ≤ 1000000000 ∧ ∀ l, WalkL arcs ws (eT n arcs L e) (eF n arcs L e) l (wtS n arcs L ws true e) → l.length ≤ 2 ^ x' → PathD n arcs L ws y s tot (eF n arcs L e) (P ++ l) := by
 obtain ⟨c1, cu, z, h1, h2, h3, h4, h5, h6⟩ := h.out
 rcases hk.via_step hy (hk.climbF_ok (ws := ws) (b := true) hy) h1 with ⟨k1, k2, k3⟩ | ⟨e, x1, z', c0, k1, k2, k3, k4, k5, k6, k7, k8, k9, k10⟩
 ·subst k2
  rw [Int.add_zero] at h5
  subst h5
  exact .inl ⟨k1, k3, h4⟩
 ·have ez : z' = z := ord_inj hk.ord k8 h2 (by rw [← k10, ← h3])
  subst ez
  have hp : 2 ^ x1 ≤ 2 ^ 20 := Nat.pow_le_pow_right (by decide) (by omega)
  refine .inr ⟨e, x1, k1, k2, k9, by omega, k6, ?_, by omega, fun l hl hll => ?_⟩
  ·rw [k9, h3, hk.rkM_at (show x1 < n by omega), hk.rkM_at k8]
   exact k7
  ·rw [k3] at hl
   refine ⟨_, c0, x1, k4, by omega, k9, h4.append hl, by omega, ?_⟩
   rw [List.length_append]
   omega
end
structure NetOk (n : Nat) (arcs : List S58) (L ws : List Int) : Prop where
 hk : Hk n arcs L
 hd : dchk (n : Int) arcs ws = 0
 hn : n ≤ 12
 al : arcs.length ≤ 40
theorem NetOk.pc {n : Nat} {arcs : List S58} {L ws : List Int} (h : NetOk n arcs L ws) (q p : Nat) : PathC n arcs L ws q p := by
 obtain ⟨h1, h2, h3⟩ := dchk_ok h.hd
 have hn := h.hn
 have hal := h.al
 refine ⟨h.hk, by omega, h2, fun i hi => ?_, by omega⟩
 rw [List.getD_eq_getElem?_getD, List.getElem?_eq_getElem hi]
 exact (h3 _ (List.getElem_mem hi)).2
theorem NetOk.len {n : Nat} {arcs : List S58} {L ws : List Int} (h : NetOk n arcs L ws) : L.length = n ∧ ws.length = arcs.length := ⟨h.hk.ord.len, (dchk_ok h.hd).2.1⟩
theorem WalkL.nonneg {arcs : List S58} {ws : List Int} {u v c : Int} {l : List Int} (h : WalkL arcs ws u v l c) : 0 ≤ c := by
 induction h with
 | nil => omega
 | cons k hk h0 hw _ ih => omega
theorem WalkL.wk {arcs : List S58} {ws : List Int} {u v c : Int} {l : List Int} (h : WalkL arcs ws u v l c) : Wk arcs ws u v c := by
 induction h with
 | nil u => exact Wk.nil u
 | cons k hk h0 hw _ ih =>
  subst h0
  exact (Wk.one k hk hw).trans ih
/-! The example. -/
def upl (n : Nat) (arcs : List S58) (L ws : List Int) (b : Bool) (s : Int) : List S50 := if hasV n s = true then (climbF n arcs L ws b (rkV L s.toNat).toNat).l.map toR else []
theorem upl_at {n : Nat} {arcs : List S58} {L ws : List Int} (hk : Hk n arcs L) {b : Bool} {x : Nat} {s : Int} (hx : x < n) (hs : L.getD x 0 = s) : upl n arcs L ws b s = (climbF n arcs L ws b x).l.map toR := by
 have hv := hk.vtx_lt hx
 have hr := hk.rkV_at hx
 have e : s.toNat = vtx L x := by rw [← hs]
 unfold upl
 rw [if_pos (hasV_iff.2 ⟨vtx L x, hv.1, by rw [← hs]; exact hv.2⟩), e, hr, Int.toNat_natCast]
theorem upl_no {n : Nat} {arcs : List S58} {L ws : List Int} {b : Bool} {s : Int} (h : hasV n s = false) : upl n arcs L ws b s = [] := by
 unfold upl
 rw [if_neg (by rw [h]; exact Bool.false_ne_true)]
theorem query_Upward.upl {w : World} {q p n : Nat} {arcs : List S58} {L ws : List Int} (hk : Hk n arcs L) (hn : n ≤ 20) (hM : MetH w q p n arcs L ws) (hwl : ws.length = arcs.length) (hwr : ∀ i, i < ws.length → ws.getD i 0 ≤ 1073741824) (s : Int) (b : Bool) :
  Calls Try.prog 22 #[.pointer (some ⟨q, 0, none⟩), .int .i64 s, .bool b] w fun e w' => Below w.heap.size w w' ∧ ∃ A c, e = .returned (.slice A (Print.upl n arcs L ws b s).length c) ∧ (Print.upl n arcs L ws b s).length ≤ c ∧ Kd.C k50 w' A (Print.upl n arcs L ws b s).length (Print.upl n arcs L ws b s) := by
 refine (query_Upward.calls hk hn hM hwl hwr s b).mono ?_
 rintro e w' ⟨hb, (⟨hv, rfl⟩ | ⟨x, v, hx, hs, rfl, hr⟩)⟩
 ·rw [upl_no hv]
  obtain ⟨A, c, he, h1, h2⟩ := Kd.R_reads (Kd.R_nil k50 50 w' 0 (fun _ => True))
  exact ⟨hb, A, c, by rw [← he], h1, h2⟩
 ·rw [upl_at hk hx hs]
  obtain ⟨A, c, rfl, h1, h2⟩ := Kd.R_reads hr
  exact ⟨hb, A, c, rfl, h1, h2⟩
theorem ref42_Upward.upl {w : World} {n : Nat} {gA : Option Addr} {gc : Nat} {arcs : List S58} {lA : Option Addr} {lc : Nat} {L : List Int} {wA : Option Addr} {wc : Nat} {ws : List Int} (hk : Hk n arcs L) (hn : n ≤ 20) (hg : Kd.C k58 w gA arcs.length arcs) (hgc : arcs.length ≤ gc) (hl : Kd.C (Kd.int .i64) w lA L.length L) (hlc : L.length ≤ lc) (hw : Kd.C (Kd.int .i64) w wA ws.length ws) (hwc : ws.length ≤ wc) (hwl : ws.length = arcs.length) (hwr : ∀ i, i < ws.length → ws.getD i 0 ≤ 1073741824) (hal : arcs.length ≤ 1000000) (s : Int) (b : Bool) :
  Calls Try.prog 23 #[.agg #[.int .i64 (n : Int), .slice gA arcs.length gc], .slice lA L.length lc, .slice wA ws.length wc, .int .i64 s, .bool b] w fun e w' => Below w.heap.size w w' ∧ ∃ A c, e = .returned (.slice A (Print.upl n arcs L ws b s).length c) ∧ (Print.upl n arcs L ws b s).length ≤ c ∧ Kd.C k50 w' A (Print.upl n arcs L ws b s).length (Print.upl n arcs L ws b s) := by
 refine (ref42_Upward.calls hk hn hg hgc hl hlc hw hwc hwl hwr hal s b).mono ?_
 rintro e w' ⟨hb, (⟨hv, rfl⟩ | ⟨x, v, hx, hs, rfl, hr⟩)⟩
 ·rw [upl_no hv]
  obtain ⟨A, c, he, h1, h2⟩ := Kd.R_reads (Kd.R_nil k50 50 w' 0 (fun _ => True))
  exact ⟨hb, A, c, by rw [← he], h1, h2⟩
 ·rw [upl_at hk hx hs]
  obtain ⟨A, c, rfl, h1, h2⟩ := Kd.R_reads hr
  exact ⟨hb, A, c, rfl, h1, h2⟩
theorem upl_len {n : Nat} {arcs : List S58} {L ws : List Int} (hk : Hk n arcs L) (hwl : ws.length = arcs.length) (hwr : ∀ i, i < ws.length → ws.getD i 0 ≤ 1073741824) (hn : n ≤ 20) (b : Bool) (s : Int) : (upl n arcs L ws b s).length ≤ 20 := by
 cases hv : hasV n s with
 | false => rw [upl_no hv]; simp
 | true =>
  obtain ⟨v, hv1, rfl⟩ := hasV_iff.1 hv
  obtain ⟨x, hx, _, hs⟩ := at_rank hk.ord hv1
  rw [upl_at hk hx hs, List.length_map, hk.upw hwl hwr hn hx]
  have := outU_len L (upI n L (relL n arcs L ws n).1 (relL n arcs L ws n).2.1 (rkV L) b x (n - x)) x (n - x)
  omega
theorem rdR_getD (l : List S50) (i : Nat) : rd_T50 l (i : Int) = l.getD i z50 := by
 unfold rd_T50
 rw [Int.toNat_natCast]
theorem gR_ (l : List S50) {i : Nat} (h : i < l.length) : l.getD i z50 = l[i] := by
 rw [List.getD_eq_getElem?_getD, List.getElem?_eq_getElem h]
 rfl
theorem reach_cells {w : World} {eA : Option Addr} {es : List S50} (h : Kd.C k50 w eA es.length es) {i : Nat} (hi : i < es.length) : ∃ ab ao, eA = some ⟨ab, ao, none⟩ ∧ w.cell? ⟨ab, ao + i * 2, none⟩ = some (.int .i64 (es.getD i z50).f0) ∧ w.cell? ⟨ab, ao + i * 2 + 1, none⟩ = some (.int .i64 (es.getD i z50).f1) := by
 obtain ⟨ae, hA2, hx0, hx1⟩ := at_T50 h (i : Int) (by omega) (by omega)
 obtain ⟨ae2, hA3, hz0, _⟩ := at_T50 h 0 (by omega) (by omega)
 obtain rfl : ae2 = ae := Option.some.inj (hA3.symm.trans hA2)
 have hsp := spot_of_cell (ad := ae2) (by exact hz0)
 obtain ⟨ab, ao, asb⟩ := ae2
 injection hsp with hz1 hz2 hes
 subst hes
 simp only [Addr.add_lit, Int.toNat_natCast] at hx0 hx1
 rw [rdR_getD] at hx0 hx1
 exact ⟨ab, ao, hA2, hx0, hx1⟩
section
variable {n : Nat} {arcs : List S58} {L ws : List Int} (h : Hk n arcs L)
include h
/-! ### The sum of the costs at the vertex -/
theorem Hk.climb_keys (hwl : ws.length = arcs.length) (hwr : ∀ i, i < ws.length → ws.getD i 0 ≤ 1073741824) (hn : n ≤ 20) {b : Bool} {x : Nat} (hx : x < n) : (climbF n arcs L ws b x).l.Pairwise (fun p q => p.1 ≠ q.1) := by
 rw [h.upw hwl hwr hn hx]
 refine (h.outU_sorted (n - x) (by omega)).imp (fun {p q} hpq e => ?_)
 unfold rkLt at hpq
 rw [e] at hpq
 omega
theorem Hk.upl_low (hwl : ws.length = arcs.length) (hwr : ∀ i, i < ws.length → ws.getD i 0 ≤ 1073741824) (hn : n ≤ 20) (b : Bool) (s : Int) : ∀ q ∈ upl n arcs L ws b s, 0 ≤ q.f0 ∧ 0 ≤ q.f1 ∧ q.f1 < 100000000000000000 := fun q hq => by
 cases hv : hasV n s with
 | false => rw [upl_no hv] at hq; cases hq
 | true =>
  obtain ⟨v, hv1, rfl⟩ := hasV_iff.1 hv
  obtain ⟨x, hx, _, hs⟩ := at_rank h.ord hv1
  rw [upl_at h hx hs, List.mem_map] at hq
  obtain ⟨⟨u, c⟩, hp, rfl⟩ := hq
  have ha := h.climbF_ok (ws := ws) (b := b) hx
  have hatt := ha.att u c ((ha.mem u c).1 hp)
  obtain ⟨j, _, h2⟩ := h.path_on hx hatt
  have hb := h.path_bound hwl hwr hn hx hatt
  have h4 := hatt.nonneg
  exact ⟨h2, h4, by show c < _; omega⟩
end
theorem Hk.arcEnds {n : Nat} {arcs : List S58} {L : List Int} (h : Hk n arcs L) : ∀ i, i < arcs.length → (0 ≤ (arcs.getD i z58).f0 ∧ (arcs.getD i z58).f0 < (n : Int)) ∧ (0 ≤ (arcs.getD i z58).f1 ∧ (arcs.getD i z58).f1 < (n : Int)) := fun i hi => by
 have h1 := (chk_ok h.chk).2.2 i hi
 rw [gA_ _ hi]
 exact ⟨⟨h1.1, h1.2.1⟩, h1.2.2.1, h1.2.2.2⟩
def swF (C : Nat → Int) (l : List S50) : Nat → Int := l.foldl (fun C q => fset C q.f0.toNat q.f1) C
theorem swF_at : ∀ {l : CM} {C : Nat → Int}, l.Pairwise (fun p q => p.1 ≠ q.1) → (∀ p ∈ l, 0 ≤ p.1) → (∀ (v : Nat) c, ((v : Int), c) ∈ l → swF C (l.map toR) v = c) ∧ (∀ v : Nat, (∀ c, ((v : Int), c) ∉ l) → swF C (l.map toR) v = C v)
 | [], C, _, _ => ⟨fun v c h => (by cases h), fun v _ => rfl⟩
 | p :: l, C, hp, h0 => by
  rw [List.pairwise_cons] at hp
  have ih := swF_at (l := l) (C := fset C p.1.toNat p.2) hp.2 (fun q hq => h0 q (List.mem_cons_of_mem _ hq))
  have hp0 := h0 p (by simp)
  refine ⟨fun v c hm => ?_, fun v hn => ?_⟩
  ·show swF (fset C p.1.toNat p.2) (l.map toR) v = c
   rcases List.mem_cons.1 hm with e | hm
   ·subst e
    rw [ih.2 v (fun c' hc' => hp.1 _ hc' rfl)]
    unfold fset
    rw [if_pos (by simp)]
   ·exact ih.1 v c hm
  ·show swF (fset C p.1.toNat p.2) (l.map toR) v = C v
   rw [ih.2 v (fun c hc => hn c (List.mem_cons_of_mem _ hc))]
   unfold fset
   rw [if_neg]
   intro e
   refine hn p.2 ?_
   have : p = ((v : Int), p.2) := by
    obtain ⟨a, b⟩ := p
    simp only [Prod.mk.injEq, and_true]
    dsimp only at e hp0
    omega
   rw [← this]
   simp
def swE (T : Int → Nat) (Wt : Int → Int) (v : Nat) (C : Nat → Int) (e : Int) : Nat → Int := if Wt e < mInf ∧ C (T e) < mInf then fset C v (min (C v) (C (T e) + Wt e)) else C
theorem sw_fold {T : Int → Nat} {Wt : Int → Int} {v : Nat} : ∀ (l : List Int) (C0 : Nat → Int), (∀ e ∈ l, T e ≠ v) →
  (∀ j, j ≠ v → l.foldl (swE T Wt v) C0 j = C0 j) ∧ l.foldl (swE T Wt v) C0 v ≤ C0 v ∧ (∀ e ∈ l, Wt e < mInf → C0 (T e) < mInf → l.foldl (swE T Wt v) C0 v ≤ C0 (T e) + Wt e) ∧
  (l.foldl (swE T Wt v) C0 v = C0 v ∨ ∃ e ∈ l, Wt e < mInf ∧ C0 (T e) < mInf ∧ l.foldl (swE T Wt v) C0 v = C0 (T e) + Wt e)
 | [], C0, _ => ⟨fun _ _ => rfl, Int.le_refl _, fun e he => (by cases he), .inl rfl⟩
 | a :: l, C0, hT => by
  have ha := hT a (by simp)
  obtain ⟨i1, i2, i3, i4⟩ := sw_fold (T := T) (Wt := Wt) (v := v) l (swE T Wt v C0 a) (fun e he => hT e (List.mem_cons_of_mem _ he))
  have s1 : ∀ j, j ≠ v → swE T Wt v C0 a j = C0 j := fun j hj => by
   unfold swE
   split
   ·unfold fset
    rw [if_neg hj]
   ·rfl
  have s2 : swE T Wt v C0 a v ≤ C0 v ∧ (Wt a < mInf → C0 (T a) < mInf → swE T Wt v C0 a v ≤ C0 (T a) + Wt a) ∧ (swE T Wt v C0 a v = C0 v ∨ Wt a < mInf ∧ C0 (T a) < mInf ∧ swE T Wt v C0 a v = C0 (T a) + Wt a) := by
   unfold swE
   split
   ·rename_i hc
    unfold fset
    rw [if_pos rfl]
    refine ⟨by omega, fun _ _ => by omega, ?_⟩
    by_cases hm : C0 v ≤ C0 (T a) + Wt a
    ·left; omega
    ·right; exact ⟨hc.1, hc.2, by omega⟩
   ·rename_i hc
    exact ⟨Int.le_refl _, fun h1 h2 => absurd ⟨h1, h2⟩ hc, .inl rfl⟩
  rw [List.foldl_cons]
  refine ⟨fun j hj => (i1 j hj).trans (s1 j hj), by omega, fun e he h1 h2 => ?_, ?_⟩
  ·rcases List.mem_cons.1 he with rfl | he
   ·have := s2.2.1 h1 h2
    omega
   ·have h3 := i3 e he h1 (by rw [s1 _ (hT e (List.mem_cons_of_mem _ he))]; exact h2)
    rw [s1 _ (hT e (List.mem_cons_of_mem _ he))] at h3
    exact h3
  ·rcases i4 with i4 | ⟨e, he, h1, h2, h3⟩
   ·rcases s2.2.2 with h | ⟨h1, h2, h3⟩
    ·exact .inl (i4.trans h)
    ·exact .inr ⟨a, by simp, h1, h2, i4.trans h3⟩
   ·rw [s1 _ (hT e (List.mem_cons_of_mem _ he))] at h2 h3
    exact .inr ⟨e, List.mem_cons_of_mem _ he, h1, h2, h3⟩
def swT (n : Nat) (arcs : List S58) (L : List Int) (e : Int) : Nat := (eT n arcs L e.toNat).toNat
def swW (n : Nat) (arcs : List S58) (L ws : List Int) (b : Bool) (e : Int) : Int := wtS n arcs L ws b e.toNat
def swV (n : Nat) (arcs : List S58) (L ws : List Int) (b : Bool) (v : Nat) (C : Nat → Int) : Nat → Int := (upS n (hierS n arcs L) (v : Int)).foldl (swE (swT n arcs L) (swW n arcs L ws (!b)) v) C
def swR (n : Nat) (arcs : List S58) (L ws : List Int) (b : Bool) (C : Nat → Int) : Nat → Nat → Int
 | 0 => C
 | d + 1 => swV n arcs L ws b (vtx L (n - 1 - d)) (swR n arcs L ws b C d)
structure SInv (n : Nat) (arcs : List S58) (L ws : List Int) (b : Bool) (x : Nat) (C : Nat → Int) (k : Nat) : Prop where
 rng : ∀ a, a < n → 0 ≤ C (vtx L a) ∧ C (vtx L a) ≤ mInf
 att : ∀ a, a < n → C (vtx L a) < mInf → ∃ m p c, UpP n arcs L ws b (L.getD x 0) m p ∧ UpP n arcs L ws (!b) (L.getD a 0) m c ∧ C (vtx L a) = p + c
 low : ∀ a p, a < n → UpP n arcs L ws b (L.getD x 0) (L.getD a 0) p → C (vtx L a) ≤ p
 rel : ∀ a, k ≤ a → a < n → ∀ e, e < eL n arcs L → eF n arcs L e = L.getD a 0 → wtS n arcs L ws (!b) e < mInf → ∀ y, y < n → eT n arcs L e = L.getD y 0 → C (vtx L y) < mInf → C (vtx L a) ≤ C (vtx L y) + wtS n arcs L ws (!b) e
section
variable {n : Nat} {arcs : List S58} {L ws : List Int} {b : Bool} (h : Hk n arcs L)
include h
theorem Hk.sw0 (hwl : ws.length = arcs.length) (hwr : ∀ i, i < ws.length → ws.getD i 0 ≤ 1073741824) (hn : n ≤ 20) {x : Nat} (hx : x < n) : SInv n arcs L ws b x (swF (fun _ => mInf) ((climbF n arcs L ws b x).l.map toR)) n := by
 have ho := h.climbF_ok (ws := ws) (b := b) hx
 have hf := swF_at (C := fun _ => mInf) (h.climb_keys hwl hwr hn (b := b) hx) (fun p hp => by
  obtain ⟨v, c⟩ := p
  obtain ⟨j, _, h2⟩ := h.path_on hx (ho.att v c ((ho.mem v c).1 hp))
  exact h2)
 have hget : ∀ a, a < n → (∃ c, mget (climbF n arcs L ws b x).cost (L.getD a 0) = some c ∧ swF (fun _ => mInf) ((climbF n arcs L ws b x).l.map toR) (vtx L a) = c) ∨ (mget (climbF n arcs L ws b x).cost (L.getD a 0) = none ∧ swF (fun _ => mInf) ((climbF n arcs L ws b x).l.map toR) (vtx L a) = mInf) := fun a ha => by
  have hv := (h.vtx_lt ha).2
  cases hg : mget (climbF n arcs L ws b x).cost (L.getD a 0) with
  | none =>
   refine .inr ⟨rfl, hf.2 _ (fun c hc => ?_)⟩
   rw [← hv, ho.mem, hg] at hc
   cases hc
  | some c =>
   refine .inl ⟨c, rfl, hf.1 _ _ ?_⟩
   rw [← hv, ho.mem]
   exact hg
 refine ⟨fun a ha => ?_, fun a ha hlt => ?_, fun a p ha hp => ?_, fun a h1 h2 => by omega⟩
 ·rcases hget a ha with ⟨c, h1, h2⟩ | ⟨_, h2⟩
  ·have hb := h.path_bound hwl hwr hn hx (ho.att _ _ h1)
   have hc := (ho.att _ _ h1).nonneg
   rw [h2]
   unfold mInf
   omega
  ·rw [h2]
   unfold mInf
   omega
 ·rcases hget a ha with ⟨c, h1, h2⟩ | ⟨_, h2⟩
  ·exact ⟨_, c, 0, ho.att _ _ h1, UpP.nil, by rw [h2]; omega⟩
  ·omega
 ·obtain ⟨c', h1, h2⟩ := ho.low _ _ hp
  rcases hget a ha with ⟨c, h3, h4⟩ | ⟨h3, _⟩
  ·rw [h1] at h3
   injection h3 with h3
   omega
  ·rw [h1] at h3
   cases h3
theorem Hk.sw_edge {k : Nat} (hk : k < n) {e : Int} (he : e ∈ upS n (hierS n arcs L) (vtx L k : Int)) : ∃ i y : Nat, e = (i : Int) ∧ i < eL n arcs L ∧ eF n arcs L i = L.getD k 0 ∧ k < y ∧ y < n ∧ eT n arcs L i = L.getD y 0 ∧ swT n arcs L e = vtx L y := by
 obtain ⟨i, rfl, hi, h0⟩ := h.of_up he
 obtain ⟨p, y, hpy, hy, e0, e1, _⟩ := h.edge_rk hi
 have hv := (h.vtx_lt hk).2
 rw [← hv] at h0
 obtain rfl : p = k := ord_inj h.ord (by omega) hk (by rw [← e0, h0])
 refine ⟨i, y, rfl, hi, h0, hpy, hy, e1, ?_⟩
 unfold swT
 rw [Int.toNat_natCast, e1]
theorem Hk.sw_step {x k : Nat} (hk : k < n) {C : Nat → Int} (hI : SInv n arcs L ws b x C (k + 1)) : SInv n arcs L ws b x (swV n arcs L ws b (vtx L k) C) k := by
 have hT : ∀ e ∈ upS n (hierS n arcs L) (vtx L k : Int), swT n arcs L e ≠ vtx L k := fun e he eq => by
  obtain ⟨i, y, _, _, _, h4, h5, _, h7⟩ := h.sw_edge hk he
  rw [h7] at eq
  have := h.vtx_inj h5 hk eq
  omega
 obtain ⟨f1, f2, f3, f4⟩ := sw_fold (Wt := swW n arcs L ws (!b)) (upS n (hierS n arcs L) (vtx L k : Int)) C hT
 have hC : swV n arcs L ws b (vtx L k) C = (upS n (hierS n arcs L) (vtx L k : Int)).foldl (swE (swT n arcs L) (swW n arcs L ws (!b)) (vtx L k)) C := rfl
 rw [← hC] at f1 f2 f3 f4
 generalize swV n arcs L ws b (vtx L k) C = C' at f1 f2 f3 f4 ⊢
 have hoth : ∀ a, a < n → a ≠ k → C' (vtx L a) = C (vtx L a) := fun a ha hak => f1 _ (fun e => hak (h.vtx_inj ha hk e))
 have hwb := fun i => wtS_bound (n := n) (arcs := arcs) (L := L) (ws := ws) (b := !b) i
 have hle : ∀ a, a < n → C' (vtx L a) ≤ C (vtx L a) := fun a ha => by
  by_cases e : a = k
  ·rw [e]; exact f2
  ·rw [hoth a ha e]; exact Int.le_refl _
 have hvk : ∀ a, a < n → a = k → C' (vtx L a) = C (vtx L k) ∨ ∃ i y : Nat, i < eL n arcs L ∧ eF n arcs L i = L.getD k 0 ∧ y < n ∧ eT n arcs L i = L.getD y 0 ∧ wtS n arcs L ws (!b) i < mInf ∧ C (vtx L y) < mInf ∧ C' (vtx L a) = C (vtx L y) + wtS n arcs L ws (!b) i := fun a ha e => by
  subst e
  rcases f4 with f4 | ⟨e, he, g1, g2, g3⟩
  ·exact .inl f4
  ·obtain ⟨i, y, rfl, h2, h3, h4, h5, h6, h7⟩ := h.sw_edge hk he
   rw [h7] at g2 g3
   exact .inr ⟨i, y, h2, h3, h5, h6, g1, g2, g3⟩
 refine ⟨fun a ha => ?_, fun a ha hlt => ?_, fun a p ha hp => Int.le_trans (hle a ha) (hI.low a p ha hp), fun a hka ha e he h0 hw y hy h1 hlt => ?_⟩
 ·refine ⟨?_, Int.le_trans (hle a ha) (hI.rng a ha).2⟩
  by_cases e : a = k
  ·rcases hvk a ha e with h1 | ⟨i, y, _, _, h3, _, _, _, h4⟩
   ·rw [h1]
    exact (hI.rng k hk).1
   ·rw [h4]
    have := (hI.rng y h3).1
    have := (hwb i).1
    omega
  ·rw [hoth a ha e]
   exact (hI.rng a ha).1
 ·by_cases e : a = k
  ·rcases hvk a ha e with h1 | ⟨i, y, h2, h0, h3, h5, hw, hy, h4⟩
   ·rw [h1] at hlt ⊢
    rw [e]
    exact hI.att k hk hlt
   ·obtain ⟨m, p, c, q1, q2, q3⟩ := hI.att y h3 hy
    rw [← h5] at q2
    have q4 := UpP.cons i h2 h0 hw q2
    rw [e]
    refine ⟨m, p, _, q1, q4, ?_⟩
    rw [← e, h4, q3]
    omega
  ·rw [hoth a ha e] at hlt ⊢
   exact hI.att a ha hlt
 ·obtain ⟨p, y', hpy, hy', e0, e1, _⟩ := h.edge_rk he
  obtain rfl : p = a := ord_inj h.ord (by omega) ha (by rw [← e0, h0])
  obtain rfl : y' = y := ord_inj h.ord hy' hy (by rw [← e1, h1])
  have hyk : C' (vtx L y') = C (vtx L y') := hoth y' hy (by omega)
  rw [hyk] at hlt ⊢
  by_cases ea : p = k
  ·subst ea
   have hin := h.in_up he (v := (vtx L p : Int)) (by rw [h0]; exact (h.vtx_lt hk).2)
   have h3 := f3 (e : Int) hin hw
   have hTy : swT n arcs L (e : Int) = vtx L y' := by
    unfold swT
    rw [Int.toNat_natCast, h1]
   rw [hTy] at h3
   exact h3 hlt
  ·rw [hoth p ha ea]
   exact hI.rel p (by omega) ha e he h0 hw y' hy h1 hlt
theorem Hk.sw_inv (hwl : ws.length = arcs.length) (hwr : ∀ i, i < ws.length → ws.getD i 0 ≤ 1073741824) (hn : n ≤ 20) {x : Nat} (hx : x < n) : ∀ d, d ≤ n → SInv n arcs L ws b x (swR n arcs L ws b (swF (fun _ => mInf) ((climbF n arcs L ws b x).l.map toR)) d) (n - d)
 | 0, _ => h.sw0 hwl hwr hn hx
 | d + 1, hd => by
  have ih := Hk.sw_inv hwl hwr hn hx d (by omega)
  rw [show n - d = (n - 1 - d) + 1 by omega] at ih
  rw [show n - (d + 1) = n - 1 - d by omega]
  exact h.sw_step (by omega) ih
theorem Hk.sw_low {x : Nat} {C : Nat → Int} (hI : SInv n arcs L ws b x C 0) {m p : Int} (hp : UpP n arcs L ws b (L.getD x 0) m p) {u c : Int} (hq : UpH n arcs L ws (!b) u m c) : ∀ a, a < n → u = L.getD a 0 → C (vtx L a) ≤ p + c := by
 induction hq with
 | nil u =>
  intro a ha e
  rw [e] at hp
  have := hI.low a p ha hp
  omega
 | cons e he h0 hw _ ih =>
  intro a ha hu
  obtain ⟨q, y, hqy, hy, e0, e1, _⟩ := h.edge_rk he
  have h3 := ih hp y hy e1
  have hwb := (wtS_bound (n := n) (arcs := arcs) (L := L) (ws := ws) (b := !b) e).1
  by_cases hc : C (vtx L y) < mInf
  ·have := hI.rel a (Nat.zero_le _) ha e he (h0.trans hu) hw y hy e1 hc
   omega
  ·have := (hI.rng a ha).2
   omega
end
def colL (n : Nat) (C : Nat → Int) : List Int := (List.range n).map C
theorem colL_at {n v : Nat} {C : Nat → Int} (hv : v < n) : (colL n C).getD v 0 = C v := by simp [colL, hv]
theorem colL_len (n : Nat) (C : Nat → Int) : (colL n C).length = n := by simp [colL]
def swAll (n : Nat) (arcs : List S58) (L ws : List Int) (b : Bool) (x : Nat) : List Int := colL n (swR n arcs L ws b (swF (fun _ => mInf) ((climbF n arcs L ws b x).l.map toR)) n)
theorem Dist.uniq {n : Nat} {arcs : List S58} {ws : List Int} {s : Nat} {d d' : List Int} (h : Dist n arcs ws s d) (h' : Dist n arcs ws s d') : d = d' := by
 have hle : ∀ {d d' : List Int}, Dist n arcs ws s d → Dist n arcs ws s d' → ∀ v, v < n → d.getD v 0 ≤ d'.getD v 0 := fun {d d'} h h' v hv => by
  by_cases e : d'.getD v 0 < mInf
  ·exact h.low v _ hv (h'.att v hv e)
  ·have := (h.rng v hv).2
   omega
 refine List.ext_getElem (h.len.trans h'.len.symm) (fun i h1 h2 => ?_)
 have hi : i < n := by rw [← h.len]; exact h1
 have a1 := hle h h' i hi
 have a2 := hle h' h i hi
 rw [getD_at h1, getD_at h2] at a1 a2
 omega
theorem Wk.rev {arcs arcs' : List S58} {ws : List Int} (hl : arcs'.length = arcs.length) (hf : ∀ i, i < arcs.length → (arcs'.getD i z58).f0 = (arcs.getD i z58).f1 ∧ (arcs'.getD i z58).f1 = (arcs.getD i z58).f0) {u v c : Int} (h : Wk arcs ws u v c) : Wk arcs' ws v u c := by
 induction h with
 | nil => exact Wk.nil _
 | snoc i _ hi h0 h1 hw ih =>
  have h2 := hf i hi
  have h3 := (Wk.one (arcs := arcs') (ws := ws) i (by omega) hw).trans (by rw [h2.2, h0]; exact ih)
  rw [h2.1, h1, Int.add_comm] at h3
  exact h3
section
variable {n : Nat} {arcs : List S58} {L ws : List Int} (h : Hk n arcs L)
include h
theorem Hk.sw_from (hwl : ws.length = arcs.length) (hwr : ∀ i, i < ws.length → ws.getD i 0 ≤ 1073741824) (hn : n ≤ 20) {x sN : Nat} (hx : x < n) (hs : L.getD x 0 = (sN : Int)) : Dist n arcs ws sN (swAll n arcs L ws false x) := by
 have hI := h.sw_inv (ws := ws) (b := false) hwl hwr hn hx n (Nat.le_refl _)
 rw [Nat.sub_self] at hI
 unfold swAll
 generalize swR n arcs L ws false (swF (fun _ => mInf) ((climbF n arcs L ws false x).l.map toR)) n = C at hI ⊢
 have hvx : ∀ v, v < n → ∃ a, a < n ∧ L.getD a 0 = (v : Int) ∧ vtx L a = v := fun v hv => by
  obtain ⟨a, h1, _, h2⟩ := at_rank h.ord hv
  refine ⟨a, h1, h2, ?_⟩
  unfold vtx
  rw [h2, Int.toNat_natCast]
 refine ⟨colL_len n C, fun v hv => ?_, fun v c hv hw => ?_, fun v hv hlt => ?_⟩
 ·rw [colL_at hv]
  obtain ⟨a, h1, h2, h3⟩ := hvx v hv
  rw [← h3]
  exact hI.rng a h1
 ·rw [colL_at hv]
  obtain ⟨a, h1, h2, h3⟩ := hvx v hv
  rw [← hs, ← h2] at hw
  obtain ⟨m, p, c', q1, q2, q3⟩ := h.meet_walk hwl hwr hn hw
  have := h.sw_low hI q1.tail q2 a h1 rfl
  rw [← h3]
  omega
 ·rw [colL_at hv] at hlt ⊢
  obtain ⟨a, h1, h2, h3⟩ := hvx v hv
  rw [← h3] at hlt ⊢
  obtain ⟨m, p, c, q1, q2, q3⟩ := hI.att a h1 hlt
  rw [q3, h3, ← h2, ← hs]
  exact (h.up_walk hwl hwr q1).trans (h.dn_walk hwl hwr q2)
theorem Hk.sw_to (hwl : ws.length = arcs.length) (hwr : ∀ i, i < ws.length → ws.getD i 0 ≤ 1073741824) (hn : n ≤ 20) {x sN : Nat} (hx : x < n) (hs : L.getD x 0 = (sN : Int)) {arcs' : List S58} (hl : arcs'.length = arcs.length) (hf : ∀ i, i < arcs.length → (arcs'.getD i z58).f0 = (arcs.getD i z58).f1 ∧ (arcs'.getD i z58).f1 = (arcs.getD i z58).f0) : Dist n arcs' ws sN (swAll n arcs L ws true x) := by
 have hI := h.sw_inv (ws := ws) (b := true) hwl hwr hn hx n (Nat.le_refl _)
 rw [Nat.sub_self] at hI
 unfold swAll
 generalize swR n arcs L ws true (swF (fun _ => mInf) ((climbF n arcs L ws true x).l.map toR)) n = C at hI ⊢
 have hvx : ∀ v, v < n → ∃ a, a < n ∧ L.getD a 0 = (v : Int) ∧ vtx L a = v := fun v hv => by
  obtain ⟨a, h1, _, h2⟩ := at_rank h.ord hv
  refine ⟨a, h1, h2, ?_⟩
  unfold vtx
  rw [h2, Int.toNat_natCast]
 have hb : ∀ i, i < arcs'.length → (arcs.getD i z58).f0 = (arcs'.getD i z58).f1 ∧ (arcs.getD i z58).f1 = (arcs'.getD i z58).f0 := fun i hi => by
  have := hf i (by omega)
  exact ⟨this.2.symm, this.1.symm⟩
 refine ⟨colL_len n C, fun v hv => ?_, fun v c hv hw => ?_, fun v hv hlt => ?_⟩
 ·rw [colL_at hv]
  obtain ⟨a, h1, h2, h3⟩ := hvx v hv
  rw [← h3]
  exact hI.rng a h1
 ·rw [colL_at hv]
  obtain ⟨a, h1, h2, h3⟩ := hvx v hv
  have hw2 := Wk.rev hl.symm hb hw
  rw [← hs, ← h2] at hw2
  obtain ⟨m, p, c', q1, q2, q3⟩ := h.meet_walk hwl hwr hn hw2
  have := h.sw_low hI q2.tail q1 a h1 rfl
  rw [← h3]
  omega
 ·rw [colL_at hv] at hlt ⊢
  obtain ⟨a, h1, h2, h3⟩ := hvx v hv
  rw [← h3] at hlt ⊢
  obtain ⟨m, p, c, q1, q2, q3⟩ := hI.att a h1 hlt
  have hw := (h.up_walk hwl hwr q2).trans (h.dn_walk hwl hwr q1)
  have hw2 := Wk.rev hl hf hw
  rw [q3, h3, ← h2, ← hs, Int.add_comm]
  exact hw2
end
/-! ### Reverse -/
def flip (a : S58) : S58 := ⟨a.f1, a.f0⟩
def rev (N : Int) (l : List S58) : Int × List S58 := if chk N l = 0 then (N, l.map flip) else (0, [])
/-! ### sameArcs -/
/-! ### The examples -/
theorem flip_at {l : List S58} {i : Nat} (hi : i < l.length) : (l.map flip).getD i z58 = flip (l.getD i z58) := by
 rw [List.getD_eq_getElem?_getD, List.getD_eq_getElem?_getD, List.getElem?_map, List.getElem?_eq_getElem hi]
 rfl
structure RfI (n : Nat) (arcs : List S58) (L ws : List Int) (s : Int) (b : Bool) (D : List Int) (f : Int) : Prop where
 no : hasV n s = false → D = [] ∧ f = 2
 at_ : ∀ x : Nat, x < n → L.getD x 0 = s → f = 0 ∧ D = swAll n arcs L ws b x
open Go.Sort
section
variable {α : Type} (c : α → Int)
def insL (x : α) : List α → List α
 | [] => [x]
 | y :: r => if c y ≤ c x then y :: insL x r else x :: y :: r
theorem insL_end {x : α} : ∀ {P : List α}, (∀ y ∈ P, c y ≤ c x) → insL c x P = P ++ [x]
 | [], _ => rfl
 | y :: r, h => by
  show (if c y ≤ c x then y :: insL c x r else x :: y :: r) = _
  rw [if_pos (h y List.mem_cons_self), insL_end (fun z hz => h z (List.mem_cons_of_mem _ hz))]
  rfl
theorem insL_snoc {x y : α} (hy : c x < c y) : ∀ (P : List α), insL c x (P ++ [y]) = insL c x P ++ [y]
 | [] => by
  show (if c y ≤ c x then y :: insL c x [] else x :: y :: []) = _
  rw [if_neg (by omega)]
  rfl
 | z :: r => by
  show (if c z ≤ c x then z :: insL c x (r ++ [y]) else x :: z :: (r ++ [y])) = (if c z ≤ c x then z :: insL c x r else x :: z :: r) ++ [y]
  split
  ·rw [insL_snoc hy r]; rfl
  ·rfl
theorem insL_len (x : α) : ∀ (P : List α), (insL c x P).length = P.length + 1
 | [] => rfl
 | y :: r => by
  show (if c y ≤ c x then y :: insL c x r else x :: y :: r).length = _
  split
  ·simp [insL_len x r]
  ·simp
theorem insL_mem {x z : α} : ∀ {P : List α}, z ∈ insL c x P → z = x ∨ z ∈ P
 | [], h => by simpa [insL] using h
 | y :: r, h => by
  unfold insL at h
  split at h
  ·rcases List.mem_cons.1 h with h | h
   ·exact .inr (h ▸ List.mem_cons_self)
   ·rcases insL_mem h with h | h
    ·exact .inl h
    ·exact .inr (List.mem_cons_of_mem _ h)
  ·rcases List.mem_cons.1 h with h | h
   ·exact .inl h
   ·exact .inr h
theorem insL_sorted {x : α} : ∀ {P : List α}, P.Pairwise (fun a b => c a ≤ c b) → (insL c x P).Pairwise (fun a b => c a ≤ c b)
 | [], _ => by simp [insL]
 | y :: r, h => by
  obtain ⟨h1, h2⟩ := List.pairwise_cons.1 h
  unfold insL
  split
  ·rename_i hy
   refine List.pairwise_cons.2 ⟨fun z hz => ?_, insL_sorted h2⟩
   rcases insL_mem c hz with rfl | hz
   ·exact hy
   ·exact h1 z hz
  ·rename_i hy
   refine List.pairwise_cons.2 ⟨fun z hz => ?_, h⟩
   rcases List.mem_cons.1 hz with rfl | hz
   ·omega
   ·have := h1 z hz; omega
def stL (l : List α) : List α := l.foldl (fun P x => insL c x P) []
theorem stL_len (l : List α) : (stL c l).length = l.length := by
 have H : ∀ (l P : List α), (l.foldl (fun P x => insL c x P) P).length = P.length + l.length := fun l => by
  induction l with
  | nil => intro P; rfl
  | cons x r ih => intro P; show (r.foldl _ (insL c x P)).length = _; rw [ih, insL_len]; simp; omega
 unfold stL
 rw [H]
 simp
variable [Inhabited α]
theorem swp_list (P R : List α) (y x : α) : swp (P ++ y :: x :: R).toArray (P.length + 1) P.length = (P ++ x :: y :: R).toArray := by
 unfold swp
 have h1 : (P ++ y :: x :: R).toArray[P.length]! = y := by simp
 have h2 : (P ++ y :: x :: R).toArray[P.length + 1]! = x := by simp
 rw [h1, h2]
 simp [List.set_append]
theorem ins_inner : ∀ (k : Nat) (P R : List α) (x : α), P.length = k → P.Pairwise (fun a b => c a ≤ c b) → insInner (ltOf fun a b => c a - c b) 0 k (P ++ x :: R).toArray = (insL c x P ++ R).toArray
 | 0, P, R, x, hk, _ => by
  obtain rfl : P = [] := List.eq_nil_of_length_eq_zero hk
  rfl
 | k + 1, P, R, x, hk, hs => by
  obtain ⟨P', y, rfl⟩ : ∃ P' y, P = P' ++ [y] := ⟨P.dropLast, P.getLast (by intro h; rw [h] at hk; cases hk), (List.dropLast_concat_getLast _).symm⟩
  have hk' : P'.length = k := by simpa using hk
  subst hk'
  have e0 : P' ++ [y] ++ x :: R = P' ++ y :: x :: R := by simp
  rw [e0]
  have h1 : (P' ++ y :: x :: R).toArray[P'.length]! = y := by simp
  have h2 : (P' ++ y :: x :: R).toArray[P'.length + 1]! = x := by simp
  rw [insInner, h1, h2]
  by_cases hlt : c x < c y
  ·have e1 : (decide (P'.length + 1 > 0) && ltOf (fun a b => c a - c b) x y) = true := by simp [ltOf]; omega
   rw [e1, if_pos rfl, swp_list, ins_inner P'.length P' (y :: R) x rfl (List.pairwise_append.1 hs).1, insL_snoc c hlt]
   simp
  ·have e1 : (decide (P'.length + 1 > 0) && ltOf (fun a b => c a - c b) x y) = false := by simp [ltOf]; omega
   rw [e1, insL_end c (fun z hz => by
    rcases List.mem_append.1 hz with hz | hz
    ·have := (List.pairwise_append.1 hs).2.2 z hz y (by simp); omega
    ·simp at hz; subst hz; omega)]
   simp
theorem ins_outer : ∀ (rest Q : List α), Q.Pairwise (fun a b => c a ≤ c b) → insOuter (ltOf fun a b => c a - c b) 0 (Q.length + rest.length) Q.length (Q ++ rest).toArray = (rest.foldl (fun P x => insL c x P) Q).toArray
 | [], Q, _ => by
  rw [insOuter, if_neg (by simp)]
  simp
 | x :: r, Q, h => by
  rw [insOuter, if_pos (by simp), ins_inner c Q.length Q r x rfl h]
  have := ins_outer r (insL c x Q) (insL_sorted c h)
  rw [insL_len] at this
  rw [show Q.length + (x :: r).length = Q.length + 1 + r.length from by simp; omega]
  exact this
theorem ins_sort (l : List α) : insertionSort (ltOf fun a b => c a - c b) l.toArray 0 l.length = (stL c l).toArray := by
 cases l with
 | nil => unfold insertionSort; rw [insOuter, if_neg (by simp)]; rfl
 | cons x r =>
  have h := ins_outer c r [x] (List.pairwise_singleton _ _)
  unfold insertionSort
  rw [show (x :: r).length = [x].length + r.length from by simp; omega]
  exact h
end
end Go.Proofs.Ytfnophaiamkmpaa.Print
