/- Several texts of this claim in one: HKPlainD, HKLives. -/
import Derived.Test.YtfnophaiamkmpaaM17
import Derived.Test.YtfnophaiamkmpaaHKRead5
namespace Go.Proofs.Ytfnophaiamkmpaa.Print
open Go.RowKit Go.Proofs.YtfnophaiamkmpaaW.PrintWords Go.Proofs.YtfnophaiamkmpaaW.PrintLast Go.Proofs.YtfnophaiamkmpaaW.PrintMore
set_option linter.unusedVariables false
set_option linter.unusedSimpArgs false
/-! ### Equality of lists -/
theorem equal_l0 (a b : List Int) (hl : a.length = b.length) (hs : a.length ≤ 1000000000) : ∀ d j : Nat, j + d = a.length → Ev (fun k => mapmakerref05_Equal.l0 k a b (j : Int)) (decide (a.drop j = b.drop j))
 | 0, j, h => by
  have h1 : a.drop j = [] := List.drop_of_length_le (by omega)
  have h2 : b.drop j = [] := List.drop_of_length_le (by omega)
  rw [h1, h2]
  refine Ev.step1 fun k => ?_
  simp only [mapmakerref05_Equal.l0]
  rw [if_neg (by omega)]
  rfl
 | d + 1, j, h => by
  have hj : j < a.length := by omega
  have hj2 : j < b.length := by omega
  have ih := equal_l0 a b hl hs d (j + 1) (by omega)
  rw [List.drop_eq_getElem_cons hj, List.drop_eq_getElem_cons hj2]
  by_cases e : a[j] = b[j]
  ·have : decide (a[j] :: a.drop (j + 1) = b[j] :: b.drop (j + 1)) = decide (a.drop (j + 1) = b.drop (j + 1)) := by
    rw [decide_eq_decide, List.cons.injEq]
    exact ⟨fun h => h.2, fun h => ⟨e, h⟩⟩
   rw [this]
   refine Ev.step (fun k => ?_) ih
   simp only [mapmakerref05_Equal.l0]
   rw [if_pos (by omega), if_pos (by omega), if_pos (by omega), rd_int a j hj, rd_int b j hj2, if_pos e, wrap_succ (by omega)]
  ·have : decide (a[j] :: a.drop (j + 1) = b[j] :: b.drop (j + 1)) = false := decide_eq_false (fun h => e (List.cons.inj h).1)
   rw [this]
   refine Ev.step1 fun k => ?_
   simp only [mapmakerref05_Equal.l0]
   rw [if_pos (by omega), if_pos (by omega), if_pos (by omega), rd_int a j hj, rd_int b j hj2, if_neg e]
theorem mapmakerref05_Equal.ev (a b : List Int) (hs : a.length ≤ 1000000000) : Ev (fun k => mapmakerref05_Equal.f k a b) (decide (a = b)) := by
 unfold mapmakerref05_Equal.f
 by_cases h : a.length = b.length
 ·simp only [if_pos (show (a.length : Int) = (b.length : Int) by omega)]
  have := equal_l0 a b h hs a.length 0 (by omega)
  simpa using this
 ·simp only [if_neg (show ¬ (a.length : Int) = (b.length : Int) by omega)]
  rw [decide_eq_false (fun e => h (by rw [e]))]
  exact Ev.now _
theorem arc_ext {a b : S58} : a = b ↔ a.f0 = b.f0 ∧ a.f1 = b.f1 := by
 constructor
 ·rintro rfl
  exact ⟨rfl, rfl⟩
 ·rintro ⟨h1, h2⟩
  cases a
  cases b
  simp at h1 h2
  rw [h1, h2]
instance arcEq : DecidableEq S58 := fun a b => decidable_of_iff (a.f0 = b.f0 ∧ a.f1 = b.f1) arc_ext.symm
/-! ### What the reference finds -/
def rrank (l : List Int) (v : Int) : Int := ((l.findIdx? (fun x => decide (x = v))).map (fun i : Nat => (i : Int))).getD (-1)
def isE2 (u v : Int) (e : S58) : Bool := decide ((e.f0 = u ∧ e.f1 = v) ∨ (e.f0 = v ∧ e.f1 = u))
def rfind (es : List S58) (u v : Int) : Int × Bool := ((es.findIdx? (isE2 u v)).map (fun i : Nat => ((i : Int), true))).getD (0, false)
def rparent (es : List S58) (v : Int) : Int := ((es.find? (fun e => decide (e.f0 = v))).map (fun e => e.f1)).getD (-1)
section
variable {n : Nat} {arcs : List S58} {L : List Int} (h : Hk n arcs L) (hn : n ≤ 1000) (hal : arcs.length ≤ 1000000)
include h hn
theorem Hk.short : (hierS n arcs L).edges.length ≤ 1000000 := by
 rw [h.edges, List.length_map]
 have h1 : ∀ r, r ≤ n → (rankEdges (plS L (hk0 n L (nbRows n arcs))) r).length ≤ r * n := fun r => by
  induction r with
  | zero => intro _; simp [rankEdges]
  | succ r ih =>
   intro hr
   have h2 := ih (by omega)
   have h3 : (plS L (hk0 n L (nbRows n arcs)) r).length ≤ n := inc_len_n (inc_setOf _) (fun x hx => by
    have := pl_rng (hk0_len h.ord (NGood.start h.chk)) (hk0_up h.ord (NGood.start h.chk)) (show r < n by omega) x hx
    omega)
   unfold rankEdges
   rw [List.length_append, List.length_map, Nat.add_mul]
   omega
 have h2 := h1 n (Nat.le_refl _)
 have h3 : n * n ≤ 1000 * 1000 := Nat.mul_le_mul hn hn
 unfold rkE
 omega
include hal
end
theorem findIdx_congr {α : Type} {p q : α → Bool} : ∀ {l : List α}, (∀ x ∈ l, p x = q x) → l.findIdx? p = l.findIdx? q
 | [], _ => rfl
 | x :: l, h => by
  rw [List.findIdx?_cons, List.findIdx?_cons, h x (by simp), findIdx_congr (l := l) (fun y hy => h y (by simp [hy]))]
theorem findIdx_some_iff {α : Type} {p : α → Bool} : ∀ {l : List α}, (l.findIdx? p).isSome = true ↔ ∃ x ∈ l, p x = true
 | [] => by simp
 | x :: l => by
  rw [List.findIdx?_cons]
  cases hp : p x with
  | true => simp [hp]
  | false =>
   simp only [Bool.false_eq_true, if_false, Option.isSome_map]
   rw [findIdx_some_iff (l := l)]
   constructor
   ·rintro ⟨y, h1, h2⟩
    exact ⟨y, by simp [h1], h2⟩
   ·rintro ⟨y, h1, h2⟩
    rcases List.mem_cons.1 h1 with rfl | h1
    ·rw [hp] at h2
     cases h2
    ·exact ⟨y, h1, h2⟩
theorem hasV_iff {n : Nat} {v : Int} : hasV n v = true ↔ ∃ k : Nat, k < n ∧ v = (k : Int) := by
 simp only [hasV, Bool.and_eq_true, decide_eq_true_eq]
 constructor
 ·rintro ⟨h1, h2⟩
  exact ⟨v.toNat, by omega, by omega⟩
 ·rintro ⟨k, h1, h2⟩
  omega
def upIxK (es : List S58) (v : Int) (k : Nat) : List Int := ((es.zipIdx k).filter (fun p => decide (p.1.f0 = v))).map (fun p => (p.2 : Int))
theorem upIx_first (v : Int) : ∀ (es : List S58) (k : Nat), (upIxK es v k = [] ∧ es.find? (fun e => decide (e.f0 = v)) = none) ∨ (∃ (i : Nat) (e : S58) (r : List Int), upIxK es v k = ((k + i : Nat) : Int) :: r ∧ es[i]? = some e ∧ es.find? (fun e => decide (e.f0 = v)) = some e)
 | [], k => .inl ⟨rfl, rfl⟩
 | a :: es, k => by
  unfold upIxK
  rw [List.zipIdx_cons]
  by_cases h : a.f0 = v
  ·right
   refine ⟨0, a, ((es.zipIdx (k + 1)).filter (fun p => decide (p.1.f0 = v))).map (fun p => (p.2 : Int)), ?_, rfl, ?_⟩
   ·rw [List.filter_cons_of_pos (by simpa using h)]
    rfl
   ·rw [List.find?_cons_of_pos (by simpa using h)]
  ·rw [List.filter_cons_of_neg (by simpa using h), List.find?_cons_of_neg (by simpa using h)]
   rcases upIx_first v es (k + 1) with h1 | ⟨i, e, r, h1, h2, h3⟩
   ·exact .inl h1
   ·refine .inr ⟨i + 1, e, r, ?_, h2, h3⟩
    rw [show k + (i + 1) = k + 1 + i by omega]
    exact h1
theorem upIx_rng (es : List S58) (v : Int) : ∀ e ∈ upIx es v, 0 ≤ e ∧ e < (es.length : Int) := fun e he => by
 unfold upIx at he
 obtain ⟨p, hp, rfl⟩ := List.mem_map.1 he
 have h1 := (List.mem_filter.1 hp).1
 obtain ⟨a, i⟩ := p
 have h2 := List.mem_zipIdx h1
 show 0 ≤ (i : Int) ∧ (i : Int) < _
 omega
theorem upIx_len (es : List S58) (v : Int) : (upIx es v).length ≤ es.length := by
 unfold upIx
 rw [List.length_map]
 refine Nat.le_trans (List.length_filter_le _ _) ?_
 rw [List.length_zipIdx]
 exact Nat.le_refl _
theorem dnL_len (es : List S58) (v : Int) : (dnL es v).length ≤ es.length := by
 unfold dnL
 rw [List.length_map]
 exact List.length_filter_le _ _
section
variable {n : Nat} {arcs : List S58} {L : List Int} (h : Hk n arcs L)
include h
theorem Hk.vx {s : Nat} (hs : s < n) : ∃ v : Nat, v < n ∧ L.getD s 0 = (v : Int) := by
 have h1 := ord_vx h.ord hs
 exact ⟨(L.getD s 0).toNat, by omega, by omega⟩
theorem Hk.ok : HOk n (hierS n arcs L) := ⟨h.inv.lenu, h.inv.lend, fun v hv e he => by
 rw [h.inv.ups v hv] at he
 exact upIx_rng _ _ e he⟩
theorem Hk.ends : ∀ a ∈ (hierS n arcs L).edges, 0 ≤ a.f0 ∧ a.f0 < (n : Int) := fun a ha => by
 obtain ⟨x, y, h1, h2, h3, _⟩ := h.edge ha
 rw [h3]
 exact ord_vx h.ord (by omega)
theorem Hk.capu (hn : n ≤ 1000) (v : Nat) : ((hierS n arcs L).ups.getD v []).length ≤ 1000000000 := by
 have h1 := h.short hn
 by_cases hv : v < n
 ·rw [h.inv.ups v hv]
  have := upIx_len (hierS n arcs L).edges v
  omega
 ·rw [List.getD_eq_getElem?_getD, List.getElem?_eq_none (by rw [h.inv.lenu]; omega)]
  simp
theorem Hk.capd (hn : n ≤ 1000) (v : Nat) : ((hierS n arcs L).downs.getD v []).length ≤ 1000000000 := by
 have h1 := h.short hn
 by_cases hv : v < n
 ·rw [h.inv.downs v hv]
  have := dnL_len (hierS n arcs L).edges v
  omega
 ·rw [List.getD_eq_getElem?_getD, List.getElem?_eq_none (by rw [h.inv.lend]; omega)]
  simp
theorem Hk.lenR : (ranksTo L L.length).length = n := by rw [ranksTo_length, h.ord.len]
theorem Hk.has {x y : Nat} (hx : x < n) (hy : y < n) : (∃ e ∈ (hierS n arcs L).edges, e.f0 = L.getD x 0 ∧ e.f1 = L.getD y 0) ↔ ((x : Int), (y : Int)) ∈ rkE n arcs L := by
 constructor
 ·rintro ⟨e, he, h1, h2⟩
  obtain ⟨a, b, h3, h4, h5, h6, h7⟩ := h.edge he
  have e1 := ord_inj h.ord (show a < n by omega) hx (h5.symm.trans h1)
  have e2 := ord_inj h.ord h4 hy (h6.symm.trans h2)
  subst e1 e2
  exact h7
 ·intro hm
  refine ⟨toArc L ((x : Int), (y : Int)), ?_, rfl, rfl⟩
  rw [h.edges]
  exact List.mem_map_of_mem hm
theorem Hk.rank (v : Int) : rankS n (ranksTo L L.length) v = rrank L v := by
 unfold rankS rrank
 by_cases hv : hasV n v = true
 ·obtain ⟨k, hk, rfl⟩ := hasV_iff.1 hv
  obtain ⟨s, h1, h2, h3⟩ := at_rank h.ord hk
  rw [if_pos hv, Int.toNat_natCast, h2]
  have h4 : L.findIdx? (fun x => decide (x = (k : Int))) = some s := by
   rw [List.findIdx?_eq_some_iff_getElem]
   have hs : s < L.length := by rw [h.ord.len]; exact h1
   refine ⟨hs, by rw [← getD_at hs, h3]; simp, fun j hj => ?_⟩
   rw [decide_eq_true_eq]
   intro e
   have hjl : j < L.length := by omega
   rw [← getD_at hjl, ← h3] at e
   have := ord_inj h.ord (show j < n by rw [← h.ord.len]; exact hjl) h1 e
   omega
  rw [h4]
  rfl
 ·rw [if_neg hv]
  have h4 : L.findIdx? (fun x => decide (x = v)) = none := by
   rw [List.findIdx?_eq_none_iff]
   intro x hx
   rw [decide_eq_false_iff_not]
   rintro rfl
   have := h.ord.rng _ hx
   exact hv (hasV_iff.2 ⟨x.toNat, by omega, by omega⟩)
  rw [h4]
  rfl
theorem Hk.rank_at {s : Nat} (hs : s < n) : rrank L (L.getD s 0) = (s : Int) := by
 rw [← h.rank]
 have h1 := ord_vx h.ord hs
 unfold rankS
 rw [if_pos (hasV_iff.2 ⟨(L.getD s 0).toNat, by omega, by omega⟩), rank_of h.ord hs]
theorem Hk.find (u v : Int) : rfind (hierS n arcs L).edges u v = findS n (ranksTo L L.length) (hierS n arcs L) u v := by
 unfold rfind findS
 by_cases hv : hasV n u = true ∧ hasV n v = true
 ·rw [if_pos hv]
  obtain ⟨a, ha, rfl⟩ := hasV_iff.1 hv.1
  obtain ⟨b, hb, rfl⟩ := hasV_iff.1 hv.2
  obtain ⟨x, h1, h2, h3⟩ := at_rank h.ord ha
  obtain ⟨y, h4, h5, h6⟩ := at_rank h.ord hb
  unfold findKeyS
  rw [Int.toNat_natCast, Int.toNat_natCast, h2, h5]
  have key : ∀ p q : Int, (∀ e ∈ (hierS n arcs L).edges, isE2 (a : Int) (b : Int) e = isE p q e) → ((((hierS n arcs L).edges.findIdx? (isE2 (a : Int) (b : Int))).map (fun i : Nat => ((i : Int), true))).getD (0, false)) = ((mget (hierS n arcs L).num (p, q)).getD 0, (mget (hierS n arcs L).num (p, q)).isSome) := fun p q hc => by
   rw [h.inv.num, findIdx_congr hc]
   cases (hierS n arcs L).edges.findIdx? (isE p q) with
   | none => rfl
   | some i => rfl
  have hed : ∀ e ∈ (hierS n arcs L).edges, ∀ s t : Nat, s < n → t < n → e.f0 = L.getD s 0 → e.f1 = L.getD t 0 → s < t := fun e he s t hs ht e0 e1 => by
   obtain ⟨c, d, h7, h8, h9, h10, _⟩ := h.edge he
   have e2 := ord_inj h.ord (show c < n by omega) hs (h9.symm.trans e0)
   have e3 := ord_inj h.ord h8 ht (h10.symm.trans e1)
   omega
  by_cases hxy : (x : Int) > (y : Int)
  ·rw [if_pos hxy]
   refine key _ _ (fun e he => ?_)
   unfold isE2 isE
   rw [decide_eq_decide]
   constructor
   ·rintro (⟨e0, e1⟩ | hc)
    ·have := hed e he x y h1 h4 (by rw [h3, e0]) (by rw [h6, e1])
     omega
    ·exact hc
   ·exact .inr
  ·rw [if_neg hxy]
   refine key _ _ (fun e he => ?_)
   unfold isE2 isE
   rw [decide_eq_decide]
   constructor
   ·rintro (hc | ⟨e0, e1⟩)
    ·exact hc
    ·have := hed e he y x h4 h1 (by rw [h6, e0]) (by rw [h3, e1])
     omega
   ·exact .inl
 ·rw [if_neg hv]
  have h4 : (hierS n arcs L).edges.findIdx? (isE2 u v) = none := by
   rw [List.findIdx?_eq_none_iff]
   intro e he
   unfold isE2
   rw [decide_eq_false_iff_not]
   obtain ⟨x, y, h1, h2, h3, h5, _⟩ := h.edge he
   obtain ⟨p, hp, hpe⟩ := h.vx (show x < n by omega)
   obtain ⟨q, hq, hqe⟩ := h.vx h2
   rintro (⟨e0, e1⟩ | ⟨e0, e1⟩)
   ·exact hv ⟨hasV_iff.2 ⟨p, hp, by rw [← e0, h3, hpe]⟩, hasV_iff.2 ⟨q, hq, by rw [← e1, h5, hqe]⟩⟩
   ·exact hv ⟨hasV_iff.2 ⟨q, hq, by rw [← e1, h5, hqe]⟩, hasV_iff.2 ⟨p, hp, by rw [← e0, h3, hpe]⟩⟩
  rw [h4]
  rfl
theorem Hk.up (v : Int) : upS n (hierS n arcs L) v = upIx (hierS n arcs L).edges v := by
 unfold upS
 by_cases hv : hasV n v = true
 ·obtain ⟨k, hk, rfl⟩ := hasV_iff.1 hv
  rw [if_pos hv, Int.toNat_natCast, h.inv.ups k hk]
 ·rw [if_neg hv]
  unfold upIx
  symm
  rw [List.map_eq_nil_iff, List.filter_eq_nil_iff]
  rintro ⟨e, i⟩ hp
  have he : e ∈ (hierS n arcs L).edges := by
   have := List.mem_zipIdx hp
   rw [this.2.2]
   exact List.getElem_mem _
  rw [decide_eq_true_eq]
  rintro rfl
  obtain ⟨x, y, h1, h2, h3, _⟩ := h.edge he
  obtain ⟨p, hp, hpe⟩ := h.vx (show x < n by omega)
  exact hv (hasV_iff.2 ⟨p, hp, h3.trans hpe⟩)
theorem Hk.parent (v : Int) : parentS n (hierS n arcs L) v = rparent (hierS n arcs L).edges v := by
 have hu := h.up v
 unfold parentS rparent
 rcases upIx_first v (hierS n arcs L).edges 0 with ⟨h1, h2⟩ | ⟨i, e, r, h1, h2, h3⟩
 ·rw [h2]
  have h1' : upIx (hierS n arcs L).edges v = [] := h1
  rw [if_neg (fun hc => hc.2 (by
   rw [h1'] at hu
   unfold upS at hu
   rw [if_pos hc.1] at hu
   exact hu))]
  rfl
 ·have h1' : upIx (hierS n arcs L).edges v = ((0 + i : Nat) : Int) :: r := h1
  rw [h1'] at hu
  unfold upS at hu
  by_cases hv : hasV n v = true
  ·rw [if_pos hv] at hu
   rw [h3, hu, if_pos ⟨hv, by simp⟩]
   have h4 : (((0 + i : Nat) : Int) :: r).getD 0 0 = ((0 + i : Nat) : Int) := rfl
   rw [h4, Int.toNat_natCast, Nat.zero_add, List.getD_eq_getElem?_getD, h2]
   rfl
  ·rw [if_neg hv] at hu
   cases hu
theorem Hk.low (b x : Int) : lowG (hierS n arcs L) b x = true ↔ ∃ e ∈ (hierS n arcs L).edges, e.f0 = x ∧ e.f1 = b := by
 unfold lowG
 rw [h.inv.num, Option.isSome_map, findIdx_some_iff]
 simp only [isE, decide_eq_true_eq]
omit h in
theorem rfind_iff {es : List S58} {u v : Int} : (rfind es u v).2 = true ↔ ∃ e ∈ es, (e.f0 = u ∧ e.f1 = v) ∨ (e.f0 = v ∧ e.f1 = u) := by
 unfold rfind
 have h1 : (((es.findIdx? (isE2 u v)).map (fun i : Nat => ((i : Int), true))).getD (0, false)).2 = (es.findIdx? (isE2 u v)).isSome := by
  cases es.findIdx? (isE2 u v) <;> rfl
 rw [h1, findIdx_some_iff]
 simp only [isE2, decide_eq_true_eq]
def rlower (es : List S58) (L : List Int) (e : Int) : List Int := if 0 ≤ e ∧ e < (es.length : Int) then (L.take (rrank L (es.getD e.toNat z58).f0).toNat).filter (fun x => (rfind es x (es.getD e.toNat z58).f0).2 && (rfind es x (es.getD e.toNat z58).f1).2) else []
theorem Hk.lower (e : Int) : lowerS (hierS n arcs L) e = rlower (hierS n arcs L).edges L e := by
 unfold lowerS rlower
 by_cases he : 0 ≤ e ∧ e < ((hierS n arcs L).edges.length : Int)
 ·rw [if_pos he, if_pos he]
  obtain ⟨k, rfl⟩ := Int.eq_ofNat_of_zero_le he.1
  have hk : k < (hierS n arcs L).edges.length := by omega
  have hrd : rd_T58 (hierS n arcs L).edges (k : Int) = (hierS n arcs L).edges.getD k z58 := by
   unfold rd_T58
   rw [Int.toNat_natCast]
  rw [hrd, Int.toNat_natCast]
  have hmem : (hierS n arcs L).edges.getD k z58 ∈ (hierS n arcs L).edges := by
   rw [List.getD_eq_getElem?_getD, List.getElem?_eq_getElem hk]
   exact List.getElem_mem hk
  obtain ⟨a, b, hab, hb, h0, h1, hm⟩ := h.edge hmem
  rw [h0, h1, h.rank_at (show a < n by omega), Int.toNat_natCast]
  obtain ⟨va, hva, hvae⟩ := h.vx (show a < n by omega)
  have hd : (hierS n arcs L).downs.getD (L.getD a 0).toNat [] = ((rkE n arcs L).filter (fun p => decide (p.2 = (a : Int)))).map (fun p => L.getD p.1.toNat 0) := by
   rw [hvae, Int.toNat_natCast, h.inv.downs va hva]
   unfold dnL
   rw [h.edges, List.filter_map, List.map_map, ← hvae]
   have h2 : (rkE n arcs L).filter ((fun e => decide (e.f1 = L.getD a 0)) ∘ toArc L) = (rkE n arcs L).filter (fun p => decide (p.2 = (a : Int))) := by
    apply List.filter_congr
    rintro ⟨c, d⟩ hcd
    obtain ⟨x, y, rfl, rfl, h3, h4⟩ := h.rng hcd
    show decide (L.getD (y : Int).toNat 0 = L.getD a 0) = decide ((y : Int) = (a : Int))
    rw [Int.toNat_natCast, decide_eq_decide]
    constructor
    ·intro h5
     have := ord_inj h.ord h4 (show a < n by omega) h5
     omega
    ·intro h5
     rw [show y = a by omega]
   rw [h2]
   rfl
  rw [hd]
  have ht : L.take a = (List.range a).map (fun s => L.getD s 0) := by
   apply List.ext_getElem
   ·rw [List.length_take, List.length_map, List.length_range, h.ord.len]
    omega
   ·intro i h2 h3
    rw [List.length_take] at h2
    rw [List.getElem_take, List.getElem_map, List.getElem_range, getD_at (by omega)]
  rw [ht, List.filter_map, List.filter_map]
  have hP : (((rkE n arcs L).filter (fun p => decide (p.2 = (a : Int)))).filter (lowG (hierS n arcs L) (L.getD b 0) ∘ fun p => L.getD p.1.toNat 0)).map (fun p => p.1) = ((List.range a).filter ((fun x => (rfind (hierS n arcs L).edges x (L.getD a 0)).2 && (rfind (hierS n arcs L).edges x (L.getD b 0)).2) ∘ fun s => L.getD s 0)).map (fun s : Nat => (s : Int)) := by
   refine inc_unique ?_ ?_ (fun x => ?_)
   ·unfold Inc
    rw [List.pairwise_map]
    refine List.Pairwise.imp_of_mem ?_ (((rkE_lex (n := n) (arcs := arcs) (L := L)).sublist List.filter_sublist).sublist List.filter_sublist)
    intro p q hp hq hlt
    have h2 := (List.mem_filter.1 (List.mem_filter.1 hp).1).2
    have h3 := (List.mem_filter.1 (List.mem_filter.1 hq).1).2
    rw [decide_eq_true_eq] at h2 h3
    rcases hlt with hlt | ⟨_, hlt⟩
    ·exact hlt
    ·omega
   ·unfold Inc
    rw [List.pairwise_map]
    refine List.Pairwise.imp (R := (· < ·)) (fun h => by omega) ?_
    exact (List.pairwise_lt_range (n := a)).sublist List.filter_sublist
   ·rw [List.mem_map, List.mem_map]
    have edg : ∀ s t : Nat, s < t → t < n → ((rfind (hierS n arcs L).edges (L.getD s 0) (L.getD t 0)).2 = true ↔ ((s : Int), (t : Int)) ∈ rkE n arcs L) := fun s t hs ht => by
     rw [rfind_iff, ← h.has (show s < n by omega) ht]
     constructor
     ·rintro ⟨e, he, hc | ⟨h2, h3⟩⟩
      ·exact ⟨e, he, hc⟩
      ·obtain ⟨c, d, h4, h5, h6, h7, _⟩ := h.edge he
       have e1 := ord_inj h.ord (show c < n by omega) ht (h6.symm.trans h2)
       have e2 := ord_inj h.ord h5 (show s < n by omega) (h7.symm.trans h3)
       omega
     ·rintro ⟨e, he, hc⟩
      exact ⟨e, he, .inl hc⟩
    constructor
    ·rintro ⟨⟨c, d⟩, hp, rfl⟩
     obtain ⟨hp1, hp2⟩ := List.mem_filter.1 hp
     obtain ⟨hp3, hp4⟩ := List.mem_filter.1 hp1
     obtain ⟨x, y, rfl, rfl, h3, h4⟩ := h.rng hp3
     rw [decide_eq_true_eq] at hp4
     have hya : y = a := by
      have : (y : Int) = (a : Int) := hp4
      omega
     subst hya
     have h5 : ((x : Int), (b : Int)) ∈ rkE n arcs L := by
      rw [← h.has (show x < n by omega) hb]
      have h6 : lowG (hierS n arcs L) (L.getD b 0) (L.getD (x : Int).toNat 0) = true := hp2
      rw [Int.toNat_natCast] at h6
      exact (h.low _ _).1 h6
     refine ⟨x, List.mem_filter.2 ⟨List.mem_range.2 h3, ?_⟩, rfl⟩
     show ((rfind _ (L.getD x 0) (L.getD y 0)).2 && (rfind _ (L.getD x 0) (L.getD b 0)).2) = true
     rw [(edg x y h3 (by omega)).2 hp3, (edg x b (by omega) hb).2 h5]
     rfl
    ·rintro ⟨s, hs, rfl⟩
     obtain ⟨h2, h3⟩ := List.mem_filter.1 hs
     have h4 := List.mem_range.1 h2
     have h5 : ((rfind (hierS n arcs L).edges (L.getD s 0) (L.getD a 0)).2 && (rfind (hierS n arcs L).edges (L.getD s 0) (L.getD b 0)).2) = true := h3
     rw [Bool.and_eq_true] at h5
     have h6 := (edg s a h4 (by omega)).1 h5.1
     have h7 := (edg s b (by omega) hb).1 h5.2
     refine ⟨((s : Int), (a : Int)), List.mem_filter.2 ⟨List.mem_filter.2 ⟨h6, by simp⟩, ?_⟩, rfl⟩
     show lowG (hierS n arcs L) (L.getD b 0) (L.getD (s : Int).toNat 0) = true
     rw [Int.toNat_natCast, h.low]
     exact (h.has (show s < n by omega) hb).2 h7
  have hmm := congrArg (List.map (fun s : Int => L.getD s.toNat 0)) hP
  rw [List.map_map, List.map_map] at hmm
  have e2 : (fun s : Int => L.getD s.toNat 0) ∘ (fun s : Nat => (s : Int)) = fun s => L.getD s 0 := by
   funext s
   show L.getD (s : Int).toNat 0 = _
   rw [Int.toNat_natCast]
  rw [e2] at hmm
  exact hmm
 ·rw [if_neg he, if_neg he]
variable (hn : n ≤ 1000) (hal : arcs.length ≤ 1000000)
include hn hal
end
theorem C_lit {w : World} {b : Nat} {l : List Int} {cs : Array Value} {t : TypeId} (h : w.heap[b]? = some (.cells cs t (0, 0))) (hc : cs.toList = l.map (Value.int .i64)) (hl : l.length ≤ 1000000) : Kd.C (Kd.int .i64) w (some ⟨b, 0, none⟩) l.length l := by
 refine ⟨rfl, by omega, fun _ => ⟨_, rfl, fun j p hj => ⟨[.int .i64 p], rfl, rfl, fun i u hu => ?_⟩⟩⟩
 have hi : i = 0 := by
  rcases Nat.eq_zero_or_pos i with h0 | h0
  ·exact h0
  ·rw [List.getElem?_eq_none (by simp; omega)] at hu
   cases hu
 subst hi
 have hu' : Value.int .i64 p = u := by simpa using hu
 subst hu'
 show w.cell? ((⟨b, 0, none⟩ : Addr).add (j * 1 + 0)) = _
 rw [Addr.add_lit, Nat.mul_one, Nat.add_zero, Nat.zero_add, blk_cell h]
 rw [← Array.getElem?_toList, hc, List.getElem?_map, hj]
 rfl
theorem C_litA {w : World} {b : Nat} {l : List S58} {cs : Array Value} {t : TypeId} (h : w.heap[b]? = some (.cells cs t (0, 0))) (hc : cs.toList = arcVals l) (hl : l.length ≤ 1000000) : Kd.C k58 w (some ⟨b, 0, none⟩) l.length l := by
 refine ⟨rfl, by omega, fun _ => ⟨_, rfl, fun j p hj => ⟨[.int .i64 p.f0, .int .i64 p.f1], rfl, k58_mk _ _, fun i u hu => ?_⟩⟩⟩
 show w.cell? ((⟨b, 0, none⟩ : Addr).add (j * 2 + i)) = _
 rw [Addr.add_lit, Nat.zero_add, blk_cell h, ← Array.getElem?_toList, hc]
 have hd := arcVals_drop l j p hj
 have hi : i < 2 := by
  have := (List.getElem?_eq_some_iff.1 hu).1
  simpa using this
 rw [← hd, List.getElem?_take, if_pos hi, List.getElem?_drop] at hu
 exact hu
def HierOf (w : World) (p n : Nat) (arcs : List S58) (L : List Int) : Prop := HierR w p n arcs L (ranksTo L L.length) (hierS n arcs L)
theorem HierOf.below {w w1 : World} {p n : Nat} {arcs : List S58} {L : List Int} (h : HierOf w p n arcs L) (hb : Below w.heap.size w w1) : HierOf w1 p n arcs L := HierR.below h hb
theorem Drawn0.bel {w w' : World} (h : Drawn0 w w') : Below w.heap.size w w' := h.below
abbrev exA : List S58 := [⟨0, 1⟩, ⟨1, 2⟩, ⟨2, 3⟩, ⟨3, 0⟩]
theorem exHk : Hk 4 exA [0, 1, 2, 3] := ⟨by kernel_rfl, isOrd_of (n := 4) (by decide) (by kernel_rfl)⟩
end Go.Proofs.Ytfnophaiamkmpaa.Print
