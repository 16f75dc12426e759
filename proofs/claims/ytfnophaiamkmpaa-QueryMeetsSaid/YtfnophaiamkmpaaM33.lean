/- Several texts of this claim in one: HQUpl, HQMt, HQMtG. -/
import Derived.Test.YtfnophaiamkmpaaM32
import Derived.Test.YtfnophaiamkmpaaM27
import Derived.Test.YtfnophaiamkmpaaPrint0
import Derived.Test.YtfnophaiamkmpaaEq0
import Derived.Test.YtfnophaiamkmpaaM1
namespace Go.Proofs.Ytfnophaiamkmpaa.Print
open Go.RowKit Go.Proofs.YtfnophaiamkmpaaW.PrintWords Go.Proofs.YtfnophaiamkmpaaW.PrintLast Go.Proofs.YtfnophaiamkmpaaW.PrintMore
set_option linter.unusedVariables false
set_option linter.unusedSimpArgs false
def upl (n : Nat) (arcs : List S58) (L ws : List Int) (b : Bool) (s : Int) : List S50 := if hasV n s = true then (climbF n arcs L ws b (rkV L s.toNat).toNat).l.map toR else []
theorem upl_at {n : Nat} {arcs : List S58} {L ws : List Int} (hk : Hk n arcs L) {b : Bool} {x : Nat} {s : Int} (hx : x < n) (hs : L.getD x 0 = s) : upl n arcs L ws b s = (climbF n arcs L ws b x).l.map toR := by
 have hv := hk.vtx_lt hx
 have hr := hk.rkV_at hx
 have e : s.toNat = vtx L x := by rw [← hs]
 unfold upl
 rw [if_pos (hasV_iff.2 ⟨vtx L x, hv.1, by rw [← hs]; exact hv.2⟩), e, hr, Int.toNat_natCast]
theorem upl_no {n : Nat} {arcs : List S58} {L ws : List Int} {b : Bool} {s : Int} (h : hasV n s = false) : upl n arcs L ws b s = [] := by
 unfold upl
 rw [if_neg (by rw [h]; exact Bool.false_ne_true)]
theorem query_Upward.upl {w : World} {q p n : Nat} {arcs : List S58} {L ws : List Int} (hk : Hk n arcs L) (hn : n ≤ 20) (hM : MetH w q p n arcs L ws) (hwl : ws.length = arcs.length) (hwr : ∀ i, i < ws.length → ws.getD i 0 ≤ 1073741824) (s : Int) (b : Bool) :
  Calls Try.prog 22 #[.pointer (some ⟨q, 0, none⟩), .int .i64 s, .bool b] w fun e w' => Below w.heap.size w w' ∧ ∃ A c, e = .returned (.slice A (Print.upl n arcs L ws b s).length c) ∧ (Print.upl n arcs L ws b s).length ≤ c ∧ Kd.C k50 w' A (Print.upl n arcs L ws b s).length (Print.upl n arcs L ws b s) := by
 refine (query_Upward.calls hk hn hM hwl hwr s b).mono ?_
 rintro e w' ⟨hb, (⟨hv, rfl⟩ | ⟨x, v, hx, hs, rfl, hr⟩)⟩
 ·rw [upl_no hv]
  obtain ⟨A, c, he, h1, h2⟩ := Kd.R_reads (Kd.R_nil k50 50 w' 0 (fun _ => True))
  exact ⟨hb, A, c, by rw [← he], h1, h2⟩
 ·rw [upl_at hk hx hs]
  obtain ⟨A, c, rfl, h1, h2⟩ := Kd.R_reads hr
  exact ⟨hb, A, c, rfl, h1, h2⟩
theorem ref42_Upward.upl {w : World} {n : Nat} {gA : Option Addr} {gc : Nat} {arcs : List S58} {lA : Option Addr} {lc : Nat} {L : List Int} {wA : Option Addr} {wc : Nat} {ws : List Int} (hk : Hk n arcs L) (hn : n ≤ 20) (hg : Kd.C k58 w gA arcs.length arcs) (hgc : arcs.length ≤ gc) (hl : Kd.C (Kd.int .i64) w lA L.length L) (hlc : L.length ≤ lc) (hw : Kd.C (Kd.int .i64) w wA ws.length ws) (hwc : ws.length ≤ wc) (hwl : ws.length = arcs.length) (hwr : ∀ i, i < ws.length → ws.getD i 0 ≤ 1073741824) (hal : arcs.length ≤ 1000000) (s : Int) (b : Bool) :
  Calls Try.prog 23 #[.agg #[.int .i64 (n : Int), .slice gA arcs.length gc], .slice lA L.length lc, .slice wA ws.length wc, .int .i64 s, .bool b] w fun e w' => Below w.heap.size w w' ∧ ∃ A c, e = .returned (.slice A (Print.upl n arcs L ws b s).length c) ∧ (Print.upl n arcs L ws b s).length ≤ c ∧ Kd.C k50 w' A (Print.upl n arcs L ws b s).length (Print.upl n arcs L ws b s) := by
 refine (ref42_Upward.calls hk hn hg hgc hl hlc hw hwc hwl hwr hal s b).mono ?_
 rintro e w' ⟨hb, (⟨hv, rfl⟩ | ⟨x, v, hx, hs, rfl, hr⟩)⟩
 ·rw [upl_no hv]
  obtain ⟨A, c, he, h1, h2⟩ := Kd.R_reads (Kd.R_nil k50 50 w' 0 (fun _ => True))
  exact ⟨hb, A, c, by rw [← he], h1, h2⟩
 ·rw [upl_at hk hx hs]
  obtain ⟨A, c, rfl, h1, h2⟩ := Kd.R_reads hr
  exact ⟨hb, A, c, rfl, h1, h2⟩
theorem upl_len {n : Nat} {arcs : List S58} {L ws : List Int} (hk : Hk n arcs L) (hwl : ws.length = arcs.length) (hwr : ∀ i, i < ws.length → ws.getD i 0 ≤ 1073741824) (hn : n ≤ 20) (b : Bool) (s : Int) : (upl n arcs L ws b s).length ≤ 20 := by
 cases hv : hasV n s with
 | false => rw [upl_no hv]; simp
 | true =>
  obtain ⟨v, hv1, rfl⟩ := hasV_iff.1 hv
  obtain ⟨x, hx, _, hs⟩ := at_rank hk.ord hv1
  rw [upl_at hk hx hs, List.length_map, hk.upw hwl hwr hn hx]
  have := outU_len L (upI n L (relL n arcs L ws n).1 (relL n arcs L ws n).2.1 (rkV L) b x (n - x)) x (n - x)
  omega
theorem rdR_getD (l : List S50) (i : Nat) : rd_T50 l (i : Int) = l.getD i z50 := by
 unfold rd_T50
 rw [Int.toNat_natCast]
theorem gR_ (l : List S50) {i : Nat} (h : i < l.length) : l.getD i z50 = l[i] := by
 rw [List.getD_eq_getElem?_getD, List.getElem?_eq_getElem h]
 rfl
theorem reach_cells {w : World} {eA : Option Addr} {es : List S50} (h : Kd.C k50 w eA es.length es) {i : Nat} (hi : i < es.length) : ∃ ab ao, eA = some ⟨ab, ao, none⟩ ∧ w.cell? ⟨ab, ao + i * 2, none⟩ = some (.int .i64 (es.getD i z50).f0) ∧ w.cell? ⟨ab, ao + i * 2 + 1, none⟩ = some (.int .i64 (es.getD i z50).f1) := by
 obtain ⟨ae, hA2, hx0, hx1⟩ := at_T50 h (i : Int) (by omega) (by omega)
 obtain ⟨ae2, hA3, hz0, _⟩ := at_T50 h 0 (by omega) (by omega)
 obtain rfl : ae2 = ae := Option.some.inj (hA3.symm.trans hA2)
 have hsp := spot_of_cell (ad := ae2) (by exact hz0)
 obtain ⟨ab, ao, asb⟩ := ae2
 injection hsp with hz1 hz2 hes
 subst hes
 simp only [Addr.add_lit, Int.toNat_natCast] at hx0 hx1
 rw [rdR_getD] at hx0 hx1
 exact ⟨ab, ao, hA2, hx0, hx1⟩
def rmS (st : Int × Int) (p q : S50) : Int × Int := if p.f0 = q.f0 ∧ (st.1 < 0 ∨ p.f1 + q.f1 < st.2) then (p.f0, p.f1 + q.f1) else st
def rmI (p : S50) (st : Int × Int) (b : List S50) : Int × Int := b.foldl (fun st q => rmS st p q) st
def rmO (b : List S50) (st : Int × Int) (a : List S50) : Int × Int := a.foldl (fun st p => rmI p st b) st
theorem rmI_cons (p q : S50) (st : Int × Int) (b : List S50) : rmI p st (q :: b) = rmI p (rmS st p q) b := rfl
theorem rmI_none {p : S50} : ∀ {b : List S50} {st : Int × Int}, (∀ q ∈ b, q.f0 ≠ p.f0) → rmI p st b = st
 | [], _, _ => rfl
 | q :: b, st, h => by
  rw [rmI_cons]
  have h1 : rmS st p q = st := if_neg (fun x => h q (by simp) x.1.symm)
  rw [h1]
  exact rmI_none (fun q hq => h q (List.mem_cons_of_mem _ hq))
theorem rmI_some {p : S50} {d : Int} (h0 : 0 ≤ p.f0) : ∀ {b : List S50} {st : Int × Int}, (∀ q ∈ b, q.f0 = p.f0 → q.f1 = d) → (∃ q ∈ b, q.f0 = p.f0) → rmI p st b = if st.1 < 0 ∨ p.f1 + d < st.2 then (p.f0, p.f1 + d) else st
 | [], _, _, h => by obtain ⟨q, hq, _⟩ := h; cases hq
 | q :: b, st, h1, h2 => by
  rw [rmI_cons]
  have h1b : ∀ r ∈ b, r.f0 = p.f0 → r.f1 = d := fun r hr => h1 r (List.mem_cons_of_mem _ hr)
  by_cases e : q.f0 = p.f0
  ·have hd := h1 q (by simp) e
   have hs : rmS st p q = if st.1 < 0 ∨ p.f1 + d < st.2 then (p.f0, p.f1 + d) else st := by
    unfold rmS
    rw [hd]
    by_cases hc : st.1 < 0 ∨ p.f1 + d < st.2
    ·rw [if_pos hc, if_pos ⟨e.symm, hc⟩]
    ·rw [if_neg hc, if_neg (fun x => hc x.2)]
   rw [hs]
   by_cases hex : ∃ r ∈ b, r.f0 = p.f0
   ·rw [rmI_some h0 h1b hex]
    by_cases hc : st.1 < 0 ∨ p.f1 + d < st.2
    ·rw [if_pos hc]
     rw [if_neg]
     dsimp only
     omega
    ·rw [if_neg hc, if_neg hc]
   ·exact rmI_none (fun r hr hf => hex ⟨r, hr, hf⟩)
  ·have hs : rmS st p q = st := if_neg (fun x => e x.1.symm)
   rw [hs]
   refine rmI_some h0 h1b ?_
   obtain ⟨r, hr, hf⟩ := h2
   rcases List.mem_cons.1 hr with rfl | hr
   ·exact absurd hf e
   ·exact ⟨r, hr, hf⟩
def toSt (a : Int × Int × Bool) : Int × Int := if a.2.2 = true then (a.1, a.2.1) else (-1, 0)
theorem rm_meet {lb dc : CM} (hm : ∀ v c, (v, c) ∈ lb ↔ mget dc v = some c) : ∀ (l : CM) (a : Int × Int × Bool), (∀ p ∈ l, 0 ≤ p.1) → (a.2.2 = true → 0 ≤ a.1) → (a.2.2 = false → a = (0, 0, false)) →
  rmO (lb.map toR) (toSt a) (l.map toR) = toSt (l.foldl (meetStep dc) a) ∧ ((l.foldl (meetStep dc) a).2.2 = true → 0 ≤ (l.foldl (meetStep dc) a).1) ∧ ((l.foldl (meetStep dc) a).2.2 = false → l.foldl (meetStep dc) a = (0, 0, false))
 | [], a, _, h1, h2 => ⟨rfl, h1, h2⟩
 | p :: l, a, h0, h1, h2 => by
  have hp0 := h0 p (by simp)
  have hstep : rmI (toR p) (toSt a) (lb.map toR) = toSt (meetStep dc a p) ∧ ((meetStep dc a p).2.2 = true → 0 ≤ (meetStep dc a p).1) ∧ ((meetStep dc a p).2.2 = false → meetStep dc a p = (0, 0, false)) := by
   unfold meetStep
   cases hg : mget dc p.1 with
   | none =>
    dsimp only
    refine ⟨rmI_none (fun q hq hf => ?_), h1, h2⟩
    rw [List.mem_map] at hq
    obtain ⟨⟨v, c⟩, hr, rfl⟩ := hq
    have e : v = p.1 := hf
    rw [hm, e, hg] at hr
    cases hr
   | some c =>
    dsimp only
    have hs := rmI_some (p := toR p) (d := c) hp0 (b := lb.map toR) (st := toSt a) (fun q hq hf => by
     rw [List.mem_map] at hq
     obtain ⟨⟨v, c'⟩, hr, rfl⟩ := hq
     have e : v = p.1 := hf
     rw [hm, e, hg] at hr
     injection hr with hr
     exact hr.symm) ⟨toR (p.1, c), List.mem_map.2 ⟨(p.1, c), (hm _ _).2 hg, rfl⟩, rfl⟩
    rw [hs]
    show (if (toSt a).1 < 0 ∨ p.2 + c < (toSt a).2 then (p.1, p.2 + c) else toSt a) = _ ∧ _
    cases ha : a.2.2 with
    | false =>
     have e1 : toSt a = (-1, 0) := by unfold toSt; rw [ha, if_neg Bool.false_ne_true]
     rw [e1, if_pos (.inl (by decide)), if_pos (.inl rfl)]
     exact ⟨rfl, fun _ => hp0, fun x => by cases x⟩
    | true =>
     have e1 : toSt a = (a.1, a.2.1) := by unfold toSt; rw [ha, if_pos rfl]
     have h3 := h1 ha
     rw [e1]
     dsimp only
     by_cases hc : p.2 + c < a.2.1
     ·rw [if_pos (.inr hc), if_pos (.inr hc)]
      exact ⟨rfl, fun _ => hp0, fun x => by cases x⟩
     ·rw [if_neg (by omega), if_neg (fun x => x.elim (fun y => by cases y) hc)]
      exact ⟨e1.symm, fun _ => h3, fun x => by rw [ha] at x; cases x⟩
  obtain ⟨s1, s2, s3⟩ := hstep
  have ih := rm_meet hm l (meetStep dc a p) (fun q hq => h0 q (List.mem_cons_of_mem _ hq)) s2 s3
  refine ⟨?_, ih.2⟩
  show rmO (lb.map toR) (rmI (toR p) (toSt a) (lb.map toR)) (l.map toR) = _
  rw [s1]
  exact ih.1
def mtV (n : Nat) (arcs : List S58) (L ws : List Int) (s t : Int) : Int × Bool := if (rmO (upl n arcs L ws true t) (-1, 0) (upl n arcs L ws false s)).1 < 0 then (0, false) else ((rmO (upl n arcs L ws true t) (-1, 0) (upl n arcs L ws false s)).1, true)
section
variable {n : Nat} {arcs : List S58} {L ws : List Int} (h : Hk n arcs L)
include h
theorem Hk.mtV_at {x y : Nat} {s t : Int} (hx : x < n) (hy : y < n) (hs : L.getD x 0 = s) (ht : L.getD y 0 = t) : mtV n arcs L ws s t = ((meetF n arcs L ws x y).1, (meetF n arcs L ws x y).2.2) := by
 have ha := h.climbF_ok (ws := ws) (b := false) hx
 have hb := h.climbF_ok (ws := ws) (b := true) hy
 have hm := rm_meet (fun v c => hb.mem v c) (climbF n arcs L ws false x).l (0, 0, false) (fun p hp => by
  obtain ⟨v, c⟩ := p
  obtain ⟨j, _, h2⟩ := h.path_on hx (ha.att v c ((ha.mem v c).1 hp))
  exact h2) (fun e => by cases e) (fun _ => rfl)
 unfold mtV
 rw [upl_at h hx hs, upl_at h hy ht]
 have e0 : toSt (0, 0, false) = (-1, 0) := rfl
 rw [e0] at hm
 rw [hm.1]
 have hmf : meetF n arcs L ws x y = (climbF n arcs L ws false x).l.foldl (meetStep (climbF n arcs L ws true y).cost) (0, 0, false) := rfl
 rw [hmf]
 obtain ⟨_, h1, h2⟩ := hm
 generalize (climbF n arcs L ws false x).l.foldl (meetStep (climbF n arcs L ws true y).cost) (0, 0, false) = r at h1 h2 ⊢
 cases hr : r.2.2 with
 | false =>
  have e1 : toSt r = (-1, 0) := by unfold toSt; rw [hr, if_neg Bool.false_ne_true]
  rw [e1, if_pos (by decide), h2 hr]
 | true =>
  have e1 : toSt r = (r.1, r.2.1) := by unfold toSt; rw [hr, if_pos rfl]
  have h3 := h1 hr
  rw [e1, if_neg (by dsimp only; omega)]
omit h in
theorem mtV_no {s t : Int} (hv : hasV n s = false ∨ hasV n t = false) : mtV n arcs L ws s t = (0, false) := by
 have e : rmO (upl n arcs L ws true t) (-1, 0) (upl n arcs L ws false s) = (-1, 0) := by
  rcases hv with hv | hv
  ·rw [upl_no (b := false) hv]
   rfl
  ·rw [upl_no (b := true) hv]
   generalize upl n arcs L ws false s = l
   unfold rmO
   induction l with
   | nil => rfl
   | cons p l ih => exact ih
 unfold mtV
 rw [e, if_pos (by decide)]
/-! ### The sum of the costs at the vertex -/
omit h in
def sumV (v : Int) (a : Int) (l : List S50) : Int := l.foldl (fun s q => if q.f0 = v then s + q.f1 else s) a
omit h in
theorem sumV_none {v : Int} : ∀ {l : CM} {a : Int}, (∀ p ∈ l, p.1 ≠ v) → sumV v a (l.map toR) = a
 | [], _, _ => rfl
 | p :: l, a, hl => by
  show sumV v (if p.1 = v then a + p.2 else a) (l.map toR) = a
  rw [if_neg (hl p (by simp))]
  exact sumV_none (fun q hq => hl q (List.mem_cons_of_mem _ hq))
omit h in
theorem sumV_one {v c : Int} : ∀ {l : CM} {a : Int}, l.Pairwise (fun p q => p.1 ≠ q.1) → (v, c) ∈ l → sumV v a (l.map toR) = a + c
 | [], _, _, hm => by cases hm
 | p :: l, a, hp, hm => by
  rw [List.pairwise_cons] at hp
  show sumV v (if p.1 = v then a + p.2 else a) (l.map toR) = a + c
  rcases List.mem_cons.1 hm with hm | hm
  ·subst hm
   rw [if_pos rfl]
   exact sumV_none (fun q hq e => hp.1 q hq e.symm)
  ·rw [if_neg (fun e => hp.1 (v, c) hm e)]
   exact sumV_one hp.2 hm
theorem Hk.climb_keys (hwl : ws.length = arcs.length) (hwr : ∀ i, i < ws.length → ws.getD i 0 ≤ 1073741824) (hn : n ≤ 20) {b : Bool} {x : Nat} (hx : x < n) : (climbF n arcs L ws b x).l.Pairwise (fun p q => p.1 ≠ q.1) := by
 rw [h.upw hwl hwr hn hx]
 refine (h.outU_sorted (n - x) (by omega)).imp (fun {p q} hpq e => ?_)
 unfold rkLt at hpq
 rw [e] at hpq
 omega
theorem Hk.meet_sum (hwl : ws.length = arcs.length) (hwr : ∀ i, i < ws.length → ws.getD i 0 ≤ 1073741824) (hn : n ≤ 20) {x y : Nat} {s t : Int} (hx : x < n) (hy : y < n) (hs : L.getD x 0 = s) (ht : L.getD y 0 = t) (hf : (meetF n arcs L ws x y).2.2 = true) :
  sumV (meetF n arcs L ws x y).1 (sumV (meetF n arcs L ws x y).1 0 (upl n arcs L ws false s)) (upl n arcs L ws true t) = (meetF n arcs L ws x y).2.1 := by
 have ha := h.climbF_ok (ws := ws) (b := false) hx
 have hb := h.climbF_ok (ws := ws) (b := true) hy
 obtain ⟨a, c, h1, h2, h3⟩ := h.meet_at hx hf
 rw [upl_at h hx hs, upl_at h hy ht, sumV_one (h.climb_keys hwl hwr hn hx) ((ha.mem _ _).2 h1), sumV_one (h.climb_keys hwl hwr hn hy) ((hb.mem _ _).2 h2), h3]
 omega
theorem Hk.upl_low (hwl : ws.length = arcs.length) (hwr : ∀ i, i < ws.length → ws.getD i 0 ≤ 1073741824) (hn : n ≤ 20) (b : Bool) (s : Int) : ∀ q ∈ upl n arcs L ws b s, 0 ≤ q.f0 ∧ 0 ≤ q.f1 ∧ q.f1 < 100000000000000000 := fun q hq => by
 cases hv : hasV n s with
 | false => rw [upl_no hv] at hq; cases hq
 | true =>
  obtain ⟨v, hv1, rfl⟩ := hasV_iff.1 hv
  obtain ⟨x, hx, _, hs⟩ := at_rank h.ord hv1
  rw [upl_at h hx hs, List.mem_map] at hq
  obtain ⟨⟨u, c⟩, hp, rfl⟩ := hq
  have ha := h.climbF_ok (ws := ws) (b := b) hx
  have hatt := ha.att u c ((ha.mem u c).1 hp)
  obtain ⟨j, _, h2⟩ := h.path_on hx hatt
  have hb := h.path_bound hwl hwr hn hx hatt
  have h4 := hatt.nonneg
  exact ⟨h2, h4, by show c < _; omega⟩
end
set_option maxHeartbeats 6400000 in
set_option maxRecDepth 100000 in
theorem ref42_Meet.calls {w : World} {n : Nat} {gA : Option Addr} {gc : Nat} {arcs : List S58} {lA : Option Addr} {lc : Nat} {L : List Int} {wA : Option Addr} {wc : Nat} {ws : List Int} (hk : Hk n arcs L) (hn : n ≤ 20) (hg : Kd.C k58 w gA arcs.length arcs) (hgc : arcs.length ≤ gc) (hl : Kd.C (Kd.int .i64) w lA L.length L) (hlc : L.length ≤ lc) (hw : Kd.C (Kd.int .i64) w wA ws.length ws) (hwc : ws.length ≤ wc) (hwl : ws.length = arcs.length) (hwr : ∀ i, i < ws.length → ws.getD i 0 ≤ 1073741824) (hal : arcs.length ≤ 1000000) (s t : Int) :
  Calls Try.prog 25 #[.agg #[.int .i64 (n : Int), .slice gA arcs.length gc], .slice lA L.length lc, .slice wA ws.length wc, .int .i64 s, .int .i64 t] w fun e w' => Below w.heap.size w w' ∧ e = .returned (.tuple #[.int .i64 (mtV n arcs L ws s t).1, .bool (mtV n arcs L ws s t).2]) := by
 have HG := Aside0.mk hg
 have HL := Aside0.mk hl
 have HW := Aside0.mk hw
 have HCS := Aside0.mk (And.intro hgc (And.intro hlc hwc))
 have HK := Aside0.mk hk
 have HWS := Aside0.mk (And.intro hwl hwr)
 clear hg hgc hl hlc hw hwc hk hwl hwr
 go_enter Try.func25, Try.ntmps25
 go_upto_region 1 with (fail)
 have HBK := Aside0.mk (heap_alloc_new w (Obj.cells #[.int .i64 (n : Int), .slice gA arcs.length gc] 24))
 have HBE : Below w.heap.size w (w.alloc (Obj.cells #[.int .i64 (n : Int), .slice gA arcs.length gc] 24)) := (Below.refl _ _).alloc (Nat.le_refl _) _
 replace HG := Aside0.mk (Kd.C_below HG.out HBE)
 replace HL := Aside0.mk (Kd.C_below HL.out HBE)
 replace HW := Aside0.mk (Kd.C_below HW.out HBE)
 have HB := Aside0.mk HBE
 generalize w.alloc (Obj.cells #[.int .i64 (n : Int), .slice gA arcs.length gc] 24) = w1 at HBK HG HL HW HB ⊢
 clear HBE
 have c0 := (blk_cell HBK.out 0).trans rfl
 have c1 := (blk_cell HBK.out 1).trans rfl
 refine s_ (fun w' => w'.cell? ⟨w.heap.size, 0, none⟩ = some (.int .i64 (n : Int)) ∧ w'.cell? ⟨w.heap.size, 1, none⟩ = some (.slice gA arcs.length gc)) [] ⟨c0, c1⟩ (fun hHeld => ?_)
 have hbd : Below w1.heap.size w1 w1.drew := below_drew (Below.refl _ _)
 replace HG := Aside0.mk (Kd.C_below HG.out hbd)
 replace HL := Aside0.mk (Kd.C_below HL.out hbd)
 replace HW := Aside0.mk (Kd.C_below HW.out hbd)
 replace HB := Aside0.mk (below_then HB.out HB.out.size hbd)
 clear hbd c0 c1
 generalize w1.drew = wc0 at HG HL HW HB hHeld ⊢
 refine t2_ 0 18 hHeld ?_
 refine p_ 1 19 ?_
 refine p_ 2 20 ?_
 refine p_ 3 21 ?_
 refine t2_ 5 23 hHeld ?_
 refine p_ 6 24 ?_
 refine p_ 7 25 ?_
 refine p_ 8 26 ?_
 refine o_ 4 22 (fun K hK => ?_)
 refine goes_ Try.func23 (by kernel_rfl) rfl #[.agg #[.int .i64 (n : Int), .slice gA arcs.length gc], .slice lA L.length lc, .slice wA ws.length wc, .int .i64 s, .bool false] (by rfl) rfl rfl byL ?_
 refine (ref42_Upward.upl HK.out hn HG.out HCS.out.1 HL.out HCS.out.2.1 HW.out HCS.out.2.2 HWS.out.1 HWS.out.2 hal s false).mono ?_
 rintro e wN ⟨hb, A1, c1, rfl, hd1, hC1⟩
 replace HG := Aside0.mk (Kd.C_below HG.out hb)
 replace HL := Aside0.mk (Kd.C_below HL.out hb)
 replace HW := Aside0.mk (Kd.C_below HW.out hb)
 replace HB := Aside0.mk (below_then HB.out HB.out.size hb)
 have HU := Aside0.mk hC1
 have HUC := Aside0.mk hd1
 refine ⟨_, rfl, ?_⟩
 refine hK.out _ _ ⟨pw_cell_below hb hHeld.1, pw_cell_below hb hHeld.2⟩ (fun hHeld => ?_)
 clear hK K
 refine n_ 22 ?_
 clear hb hC1 hd1
 refine o_ 9 27 (fun K hK => ?_)
 refine goes_ Try.func23 (by kernel_rfl) rfl #[.agg #[.int .i64 (n : Int), .slice gA arcs.length gc], .slice lA L.length lc, .slice wA ws.length wc, .int .i64 t, .bool true] (by rfl) rfl rfl byL ?_
 refine (ref42_Upward.upl HK.out hn HG.out HCS.out.1 HL.out HCS.out.2.1 HW.out HCS.out.2.2 HWS.out.1 HWS.out.2 hal t true).mono ?_
 rintro e wN ⟨hb, A2, c2, rfl, hd2, hC2⟩
 replace HG := Aside0.mk (Kd.C_below HG.out hb)
 replace HL := Aside0.mk (Kd.C_below HL.out hb)
 replace HW := Aside0.mk (Kd.C_below HW.out hb)
 replace HB := Aside0.mk (below_then HB.out HB.out.size hb)
 replace HU := Aside0.mk (Kd.C_below HU.out hb)
 have HV := Aside0.mk hC2
 have HVC := Aside0.mk hd2
 refine ⟨_, rfl, ?_⟩
 refine hK.out _ _ ⟨pw_cell_below hb hHeld.1, pw_cell_below hb hHeld.2⟩ (fun hHeld => ?_)
 clear hK K
 refine n_ 27 ?_
 clear hb hC2 hd2
 refine p_ 10 12 ?_
 refine p_ 11 13 ?_
 refine d_ ?_
 clear hHeld HG HL HW HBK
 have HLU := Aside0.mk (HK.out.upl_low HWS.out.1 HWS.out.2 hn false s)
 have HLV := Aside0.mk (HK.out.upl_low HWS.out.1 HWS.out.2 hn true t)
 have hl1 := upl_len HK.out HWS.out.1 HWS.out.2 hn false s
 have hl2 := upl_len HK.out HWS.out.1 HWS.out.2 hn true t
 have HMV := Aside0.mk (show mtV n arcs L ws s t = if (rmO (upl n arcs L ws true t) (-1, 0) (upl n arcs L ws false s)).1 < 0 then (0, false) else ((rmO (upl n arcs L ws true t) (-1, 0) (upl n arcs L ws false s)).1, true) from rfl)
 generalize upl n arcs L ws false s = a at HU HUC HLU hl1 HMV ⊢
 generalize upl n arcs L ws true t = b at HV HVC HLV hl2 HMV ⊢
 obtain ⟨m1, HM1⟩ : ∃ m1, Aside0 (a.length = m1) := ⟨_, ⟨rfl⟩⟩
 obtain ⟨m2, HM2⟩ : ∃ m2, Aside0 (b.length = m2) := ⟨_, ⟨rfl⟩⟩
 rw [HM1.out] at hl1 ⊢
 rw [HM2.out] at hl2 ⊢
 go_wp2_with (fail)
 obtain ⟨wZ, hwZ⟩ : ∃ q, q = wN := ⟨_, rfl⟩
 subst hwZ
 go_loopw [14, 15, 16] (fun p q i wr => ∃ (k : Nat), p = .int .i64 (rmO b (-1, 0) (a.take k)).1 ∧ q = .int .i64 (rmO b (-1, 0) (a.take k)).2 ∧ i = .int .i64 (k : Int) ∧ k ≤ m1 ∧ Aside0 (Below wZ.heap.size wZ wr)) (fun _ _ i _ => m1 - (intOf i).toNat)
 case atStart => exact ⟨0, rfl, rfl, rfl, Nat.zero_le _, ⟨Below.refl _ _⟩⟩
 case round => as_aux_lemma =>
  obtain ⟨k, rfl, rfl, rfl, hk, HBL⟩ := hrel
  by_cases hkm : k < m1
  ·have HSO : Aside0 (rmO b (-1, 0) (a.take (k + 1)) = rmI (a.getD k z50) (rmO b (-1, 0) (a.take k)) b) := ⟨by
    rw [gR_ a (by have := HM1.out; omega)]
    exact foldl_succ _ _ (by have := HM1.out; omega)⟩
   have hpl := HLU.out (a.getD k z50) (by rw [gR_ a (by have := HM1.out; omega)]; exact List.getElem_mem _)
   obtain ⟨ub, uo, rfl, hx0, hx1⟩ := reach_cells HU.out (i := k) (by have := HM1.out; omega)
   generalize a.getD k z50 = p at HSO hpl hx0 hx1
   generalize rmO b (-1, 0) (a.take k) = st at HSO ⊢
   go_wp2_with (fail)
   go_loopw [14, 15, 17] (fun x y i wr => ∃ (j : Nat), x = .int .i64 (rmI p st (b.take j)).1 ∧ y = .int .i64 (rmI p st (b.take j)).2 ∧ i = .int .i64 (j : Int) ∧ j ≤ m2 ∧ Aside0 (Below wZ.heap.size wZ wr)) (fun _ _ i _ => m2 - (intOf i).toNat)
   case atStart => exact ⟨0, rfl, rfl, rfl, Nat.zero_le _, HBL⟩
   case round => as_aux_lemma =>
    clear HBL
    obtain ⟨j, rfl, rfl, rfl, hj, HBL⟩ := hrel
    by_cases hjm : j < m2
    ·have HSI : Aside0 (rmI p st (b.take (j + 1)) = rmS (rmI p st (b.take j)) p (b.getD j z50)) := ⟨by
      rw [gR_ b (by have := HM2.out; omega)]
      exact foldl_succ _ _ (by have := HM2.out; omega)⟩
     have hql := HLV.out (b.getD j z50) (by rw [gR_ b (by have := HM2.out; omega)]; exact List.getElem_mem _)
     obtain ⟨vb, vo, rfl, hy0, hy1⟩ := reach_cells HV.out (i := j) (by have := HM2.out; omega)
     generalize b.getD j z50 = q at HSI hql hy0 hy1
     generalize rmI p st (b.take j) = su at HSI ⊢
     obtain ⟨ss, HSS⟩ : ∃ ss, Aside0 (rmI p st (b.take (j + 1)) = ss) := ⟨_, ⟨rfl⟩⟩
     rw [HSS.out] at HSI
     obtain ⟨p0, p1⟩ := p
     obtain ⟨q0, q1⟩ := q
     obtain ⟨s0, s1⟩ := su
     dsimp only at hpl hql hx0 hx1 hy0 hy1 ⊢
     have HNO : Aside0 (¬(p0 = q0 ∧ (s0 < 0 ∨ p1 + q1 < s1)) → ss = (s0, s1)) := ⟨fun h => by rw [HSI.out]; exact if_neg h⟩
     have HYE : Aside0 (p0 = q0 → (s0 < 0 ∨ p1 + q1 < s1) → ss = (p0, p1 + q1)) := ⟨fun h1 h2 => by rw [HSI.out]; exact if_pos ⟨h1, h2⟩⟩
     have HX0 := Aside0.mk hx0
     have HX1 := Aside0.mk hx1
     have HY0 := Aside0.mk hy0
     have HY1 := Aside0.mk hy1
     clear HSI hx0 hx1 hy0 hy1
     have hx0 := (HBL.out.cell (World.block_lt_of_cell? wZ _ HX0.out)).trans HX0.out
     have hx1 := (HBL.out.cell (World.block_lt_of_cell? wZ _ HX1.out)).trans HX1.out
     have hy0 := (HBL.out.cell (World.block_lt_of_cell? wZ _ HY0.out)).trans HY0.out
     have hy1 := (HBL.out.cell (World.block_lt_of_cell? wZ _ HY1.out)).trans HY1.out
     have hwr : IntKind.i64.wrap (p1 + q1) = p1 + q1 := by rw [i64_w]; unfold wrap64; omega
     go_upto_region 9 with (fail)
     refine s_ (fun w' => w'.cell? ⟨ub, uo + k * 2, none⟩ = some (.int .i64 p0) ∧ w'.cell? ⟨vb, vo + j * 2, none⟩ = some (.int .i64 q0) ∧ w'.cell? ⟨ub, uo + k * 2 + 1, none⟩ = some (.int .i64 p1) ∧ w'.cell? ⟨vb, vo + j * 2 + 1, none⟩ = some (.int .i64 q1)) [] ⟨hx0, hy0, hx1, hy1⟩ (fun hHeld => ?_)
     have HBd := Aside0.mk (below_drew HBL.out)
     clear hx0 hx1 hy0 hy1 HBL
     generalize wr.drew = we at HBd hHeld ⊢
     by_cases he : p0 = q0
     ·by_cases h0 : s0 < 0
      ·have HE := Aside0.mk (HYE.out he (.inl h0))
       refine p_ 0 40 ?_
       refine p_ 1 41 ?_
       refine p_ 2 42 ?_
       refine p_ 3 43 ?_
       refine t4_ 4 44 hHeld ?_
       refine p_ 5 45 ?_
       refine p_ 6 46 ?_
       refine p_ 7 47 ?_
       refine p_ 8 48 ?_
       refine t4_ 9 49 hHeld ?_
       refine p_ 10 50 (v := .bool true) ?_ (hy := Or.inl ⟨by rfl, by intro w2; go_simp; try exact hwr⟩)
       refine p_ 11 51 ?_
       refine p_ 12 52 ?_
       refine p_ 13 53 (v := .bool true) ?_ (hy := Or.inl ⟨by rfl, by intro w2; go_simp; try exact hwr⟩)
       refine p_ 14 54 ?_
       refine p_ 15 55 (v := undef) ?_ (hy := Or.inr ⟨by rfl, by rfl⟩)
       refine p_ 16 56 (v := undef) ?_ (hy := Or.inr ⟨by rfl, by rfl⟩)
       refine p_ 17 57 (v := undef) ?_ (hy := Or.inr ⟨by rfl, by rfl⟩)
       refine p_ 18 58 (v := undef) ?_ (hy := Or.inr ⟨by rfl, by rfl⟩)
       refine p_ 19 59 (v := undef) ?_ (hy := Or.inr ⟨by rfl, by rfl⟩)
       refine p_ 20 60 (v := undef) ?_ (hy := Or.inr ⟨by rfl, by rfl⟩)
       refine p_ 21 61 (v := undef) ?_ (hy := Or.inr ⟨by rfl, by rfl⟩)
       refine p_ 22 62 (v := undef) ?_ (hy := Or.inr ⟨by rfl, by rfl⟩)
       refine p_ 23 63 (v := undef) ?_ (hy := Or.inr ⟨by rfl, by rfl⟩)
       refine p_ 24 64 (v := undef) ?_ (hy := Or.inr ⟨by rfl, by rfl⟩)
       refine p_ 25 65 (v := undef) ?_ (hy := Or.inr ⟨by rfl, by rfl⟩)
       refine p_ 26 66 (v := undef) ?_ (hy := Or.inr ⟨by rfl, by rfl⟩)
       refine p_ 27 67 (v := undef) ?_ (hy := Or.inr ⟨by rfl, by rfl⟩)
       refine p_ 28 68 (v := .bool true) ?_ (hy := Or.inl ⟨by rfl, by intro w2; go_simp; try exact hwr⟩)
       refine p_ 29 69 (v := .bool true) ?_ (hy := Or.inl ⟨by rfl, by intro w2; go_simp; try exact hwr⟩)
       refine d_ ?_
       obtain ⟨hx0, hy0, hx1, hy1⟩ := hHeld
       go_upto_region 11 with (fail)
       refine s_ (fun w' => w'.cell? ⟨ub, uo + k * 2 + 1, none⟩ = some (.int .i64 p1) ∧ w'.cell? ⟨vb, vo + j * 2 + 1, none⟩ = some (.int .i64 q1)) [] ⟨hx1, hy1⟩ (fun hHeld => ?_)
       have HBf := Aside0.mk (below_drew HBd.out)
       clear hx0 hx1 hy0 hy1 HBd
       generalize we.drew = wf at HBf hHeld ⊢
       refine p_ 0 75 ?_
       refine p_ 1 76 ?_
       refine p_ 2 77 ?_
       refine p_ 3 78 ?_
       refine t2_ 4 79 hHeld ?_
       refine p_ 5 80 ?_
       refine p_ 6 81 ?_
       refine p_ 7 82 ?_
       refine p_ 8 83 ?_
       refine t2_ 9 84 hHeld ?_
       refine p_ 10 85 (v := .int .i64 (p1 + q1)) ?_ (hy := Or.inl ⟨by rfl, by intro w2; go_simp; try exact hwr⟩)
       refine p_ 11 15 ?_
       refine d_ ?_
       clear hHeld
       go_wp2_with (fail)
       go_roundw
       case rel => exact ⟨j + 1, by rw [HSS.out, HE.out]; show Value.int _ q0 = .int _ p0; rw [he], by rw [HSS.out, HE.out], by go_num, by omega, HBf⟩
       case measure => simp [intOf]; omega
      ·by_cases h1 : p1 + q1 < s1
       ·have HE := Aside0.mk (HYE.out he (.inr h1))
        refine p_ 0 40 ?_
        refine p_ 1 41 ?_
        refine p_ 2 42 ?_
        refine p_ 3 43 ?_
        refine t4_ 4 44 hHeld ?_
        refine p_ 5 45 ?_
        refine p_ 6 46 ?_
        refine p_ 7 47 ?_
        refine p_ 8 48 ?_
        refine t4_ 9 49 hHeld ?_
        refine p_ 10 50 (v := .bool true) ?_ (hy := Or.inl ⟨by rfl, by intro w2; go_simp; try exact hwr⟩)
        refine p_ 11 51 ?_
        refine p_ 12 52 ?_
        refine p_ 13 53 (v := .bool false) ?_ (hy := Or.inl ⟨by rfl, by intro w2; go_simp; try exact hwr⟩)
        refine p_ 14 54 ?_
        refine p_ 15 55 ?_
        refine p_ 16 56 ?_
        refine p_ 17 57 ?_
        refine p_ 18 58 ?_
        refine t4_ 19 59 hHeld ?_
        refine p_ 20 60 ?_
        refine p_ 21 61 ?_
        refine p_ 22 62 ?_
        refine p_ 23 63 ?_
        refine t4_ 24 64 hHeld ?_
        refine p_ 25 65 (v := .int .i64 (p1 + q1)) ?_ (hy := Or.inl ⟨by rfl, by intro w2; go_simp; try exact hwr⟩)
        refine p_ 26 66 ?_
        refine p_ 27 67 (v := .bool true) ?_ (hy := Or.inl ⟨by rfl, by intro w2; go_simp; try exact hwr⟩)
        refine p_ 28 68 (v := .bool true) ?_ (hy := Or.inl ⟨by rfl, by intro w2; go_simp; try exact hwr⟩)
        refine p_ 29 69 (v := .bool true) ?_ (hy := Or.inl ⟨by rfl, by intro w2; go_simp; try exact hwr⟩)
        refine d_ ?_
        obtain ⟨hx0, hy0, hx1, hy1⟩ := hHeld
        go_upto_region 11 with (fail)
        refine s_ (fun w' => w'.cell? ⟨ub, uo + k * 2 + 1, none⟩ = some (.int .i64 p1) ∧ w'.cell? ⟨vb, vo + j * 2 + 1, none⟩ = some (.int .i64 q1)) [] ⟨hx1, hy1⟩ (fun hHeld => ?_)
        have HBf := Aside0.mk (below_drew HBd.out)
        clear hx0 hx1 hy0 hy1 HBd
        generalize we.drew = wf at HBf hHeld ⊢
        refine p_ 0 75 ?_
        refine p_ 1 76 ?_
        refine p_ 2 77 ?_
        refine p_ 3 78 ?_
        refine t2_ 4 79 hHeld ?_
        refine p_ 5 80 ?_
        refine p_ 6 81 ?_
        refine p_ 7 82 ?_
        refine p_ 8 83 ?_
        refine t2_ 9 84 hHeld ?_
        refine p_ 10 85 (v := .int .i64 (p1 + q1)) ?_ (hy := Or.inl ⟨by rfl, by intro w2; go_simp; try exact hwr⟩)
        refine p_ 11 15 ?_
        refine d_ ?_
        clear hHeld
        go_wp2_with (fail)
        go_roundw
        case rel => exact ⟨j + 1, by rw [HSS.out, HE.out]; show Value.int _ q0 = .int _ p0; rw [he], by rw [HSS.out, HE.out], by go_num, by omega, HBf⟩
        case measure => simp [intOf]; omega
       ·have HE := Aside0.mk (HNO.out (fun h => h.2.elim h0 h1))
        refine p_ 0 40 ?_
        refine p_ 1 41 ?_
        refine p_ 2 42 ?_
        refine p_ 3 43 ?_
        refine t4_ 4 44 hHeld ?_
        refine p_ 5 45 ?_
        refine p_ 6 46 ?_
        refine p_ 7 47 ?_
        refine p_ 8 48 ?_
        refine t4_ 9 49 hHeld ?_
        refine p_ 10 50 (v := .bool true) ?_ (hy := Or.inl ⟨by rfl, by intro w2; go_simp; try exact hwr⟩)
        refine p_ 11 51 ?_
        refine p_ 12 52 ?_
        refine p_ 13 53 (v := .bool false) ?_ (hy := Or.inl ⟨by rfl, by intro w2; go_simp; try exact hwr⟩)
        refine p_ 14 54 ?_
        refine p_ 15 55 ?_
        refine p_ 16 56 ?_
        refine p_ 17 57 ?_
        refine p_ 18 58 ?_
        refine t4_ 19 59 hHeld ?_
        refine p_ 20 60 ?_
        refine p_ 21 61 ?_
        refine p_ 22 62 ?_
        refine p_ 23 63 ?_
        refine t4_ 24 64 hHeld ?_
        refine p_ 25 65 (v := .int .i64 (p1 + q1)) ?_ (hy := Or.inl ⟨by rfl, by intro w2; go_simp; try exact hwr⟩)
        refine p_ 26 66 ?_
        refine p_ 27 67 (v := .bool false) ?_ (hy := Or.inl ⟨by rfl, by intro w2; go_simp; try exact hwr⟩)
        refine p_ 28 68 (v := .bool false) ?_ (hy := Or.inl ⟨by rfl, by intro w2; go_simp; try exact hwr⟩)
        refine p_ 29 69 (v := .bool false) ?_ (hy := Or.inl ⟨by rfl, by intro w2; go_simp; try exact hwr⟩)
        refine d_ ?_
        clear hHeld
        go_wp2_with (fail)
        go_roundw
        case rel => exact ⟨j + 1, by rw [HSS.out, HE.out], by rw [HSS.out, HE.out], by go_num, by omega, HBd⟩
        case measure => simp [intOf]; omega
     ·have HE := Aside0.mk (HNO.out (fun h => he h.1))
      refine p_ 0 40 ?_
      refine p_ 1 41 ?_
      refine p_ 2 42 ?_
      refine p_ 3 43 ?_
      refine t4_ 4 44 hHeld ?_
      refine p_ 5 45 ?_
      refine p_ 6 46 ?_
      refine p_ 7 47 ?_
      refine p_ 8 48 ?_
      refine t4_ 9 49 hHeld ?_
      refine p_ 10 50 (v := .bool false) ?_ (hy := Or.inl ⟨by rfl, by intro w2; go_simp; try exact hwr⟩)
      refine p_ 11 51 ?_
      refine p_ 12 52 (v := undef) ?_ (hy := Or.inr ⟨by rfl, by rfl⟩)
      refine p_ 13 53 (v := undef) ?_ (hy := Or.inr ⟨by rfl, by rfl⟩)
      refine p_ 14 54 (v := undef) ?_ (hy := Or.inr ⟨by rfl, by rfl⟩)
      refine p_ 15 55 (v := undef) ?_ (hy := Or.inr ⟨by rfl, by rfl⟩)
      refine p_ 16 56 (v := undef) ?_ (hy := Or.inr ⟨by rfl, by rfl⟩)
      refine p_ 17 57 (v := undef) ?_ (hy := Or.inr ⟨by rfl, by rfl⟩)
      refine p_ 18 58 (v := undef) ?_ (hy := Or.inr ⟨by rfl, by rfl⟩)
      refine p_ 19 59 (v := undef) ?_ (hy := Or.inr ⟨by rfl, by rfl⟩)
      refine p_ 20 60 (v := undef) ?_ (hy := Or.inr ⟨by rfl, by rfl⟩)
      refine p_ 21 61 (v := undef) ?_ (hy := Or.inr ⟨by rfl, by rfl⟩)
      refine p_ 22 62 (v := undef) ?_ (hy := Or.inr ⟨by rfl, by rfl⟩)
      refine p_ 23 63 (v := undef) ?_ (hy := Or.inr ⟨by rfl, by rfl⟩)
      refine p_ 24 64 (v := undef) ?_ (hy := Or.inr ⟨by rfl, by rfl⟩)
      refine p_ 25 65 (v := undef) ?_ (hy := Or.inr ⟨by rfl, by rfl⟩)
      refine p_ 26 66 (v := undef) ?_ (hy := Or.inr ⟨by rfl, by rfl⟩)
      refine p_ 27 67 (v := undef) ?_ (hy := Or.inr ⟨by rfl, by rfl⟩)
      refine p_ 28 68 (v := undef) ?_ (hy := Or.inr ⟨by rfl, by rfl⟩)
      refine p_ 29 69 (v := .bool false) ?_ (hy := Or.inl ⟨by rfl, by intro w2; go_simp; try exact hwr⟩)
      refine d_ ?_
      clear hHeld
      go_wp2_with (fail)
      go_roundw
      case rel => exact ⟨j + 1, by rw [HSS.out, HE.out], by rw [HSS.out, HE.out], by go_num, by omega, HBd⟩
      case measure => simp [intOf]; omega
    ·have hjm2 : j = m2 := by omega
     have hbt : b.take j = b := List.take_of_length_le (by have := HM2.out; omega)
     rw [hbt, ← HSO.out]
     go_wp2_with (fail)
     go_roundw
     case rel => exact ⟨k + 1, rfl, rfl, by go_num, by omega, HBL⟩
     case measure => simp [intOf]; omega
  ·have hat : a.take k = a := List.take_of_length_le (by have := HM1.out; omega)
   rw [hat]
   have HF := Aside0.mk (below_then HB.out HB.out.size HBL.out)
   generalize rmO b (-1, 0) a = r at HMV ⊢
   obtain ⟨r0, r1⟩ := r
   dsimp only at HMV ⊢
   by_cases hr : r0 < 0
   ·rw [if_pos hr] at HMV
    go_wp2_with (fail)
    go_ret2
    exact ⟨HF.out, by rw [HMV.out]; rfl⟩
   ·rw [if_neg hr] at HMV
    go_wp2_with (fail)
    go_ret2
    exact ⟨HF.out, by rw [HMV.out]; rfl⟩
end Go.Proofs.Ytfnophaiamkmpaa.Print
