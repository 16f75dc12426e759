/- Several texts of this claim in one: HKPlainA, F40. -/
import Derived.Test.YtfnophaiamkmpaaM16
import Derived.Test.YtfnophaiamkmpaaM15
import Derived.Test.YtfnophaiamkmpaaPrint0
import Derived.Test.YtfnophaiamkmpaaM1
namespace Go.Proofs.Ytfnophaiamkmpaa.Print
open Go.RowKit Go.Proofs.YtfnophaiamkmpaaW.PrintWords Go.Proofs.YtfnophaiamkmpaaW.PrintLast Go.Proofs.YtfnophaiamkmpaaW.PrintMore
set_option linter.unusedVariables false
set_option linter.unusedSimpArgs false
theorem getD_at {l : List Int} {k : Nat} (h : k < l.length) : l.getD k 0 = l[k] := by rw [List.getD_eq_getElem?_getD, List.getElem?_eq_getElem h]; rfl
theorem mem_hpush {H : List (List Int)} {i q : Nat} {x y : Int} (hi : i < H.length) : y ∈ (hpush H i x).getD q [] ↔ y ∈ H.getD q [] ∨ (q = i ∧ y = x) := by
 rw [getD_hpush hi]
 by_cases e : i = q
 ·subst e
  simp
 ·rw [if_neg e]
  constructor
  ·exact .inl
  ·rintro (h | ⟨h, _⟩)
   ·exact h
   ·exact absurd h.symm e
theorem length_hpush (H : List (List Int)) (i : Nat) (x : Int) : (hpush H i x).length = H.length := by simp [hpush]
/-! ### The program's side -/
section
variable {n : Nat} {L R : List Int} (hR : ∀ v, v < n → 0 ≤ R.getD v 0 ∧ R.getD v 0 < (n : Int))
include hR
theorem mem_h1row (v : Nat) (hv : v < n) : ∀ (l : List Int) (H : List (List Int)), H.length = n → (∀ u ∈ l, 0 ≤ u ∧ u < (n : Int)) → (h1row R v H l).length = n ∧ ∀ q y, y ∈ (h1row R v H l).getD q [] ↔ y ∈ H.getD q [] ∨ ((q : Int) = R.getD v 0 ∧ ∃ u ∈ l, R.getD u.toNat 0 > R.getD v 0 ∧ y = R.getD u.toNat 0)
 | [], H, hH, _ => ⟨hH, fun q y => by simp [h1row]⟩
 | u :: l, H, hH, hl => by
  have hs : (h1step R v H u).length = n := by
   unfold h1step
   split
   ·rw [length_hpush]; exact hH
   ·exact hH
  obtain ⟨h1, h2⟩ := mem_h1row v hv l (h1step R v H u) hs (fun x hx => hl x (by simp [hx]))
  refine ⟨h1, fun q y => (h2 q y).trans ?_⟩
  have hr := hR v hv
  unfold h1step
  by_cases hgt : R.getD u.toNat 0 > R.getD v 0
  ·rw [if_pos hgt, mem_hpush (by omega)]
   constructor
   ·rintro ((h | ⟨h, hy⟩) | ⟨h, w, hw, h3, h4⟩)
    ·exact .inl h
    ·exact .inr ⟨by omega, u, by simp, hgt, hy⟩
    ·exact .inr ⟨h, w, by simp [hw], h3, h4⟩
   ·rintro (h | ⟨h, w, hw, h3, h4⟩)
    ·exact .inl (.inl h)
    ·rcases List.mem_cons.1 hw with rfl | hw
     ·exact .inl (.inr ⟨by omega, h4⟩)
     ·exact .inr ⟨h, w, hw, h3, h4⟩
  ·rw [if_neg hgt]
   constructor
   ·rintro (h | ⟨h, w, hw, h3, h4⟩)
    ·exact .inl h
    ·exact .inr ⟨h, w, by simp [hw], h3, h4⟩
   ·rintro (h | ⟨h, w, hw, h3, h4⟩)
    ·exact .inl h
    ·rcases List.mem_cons.1 hw with rfl | hw
     ·exact absurd h3 hgt
     ·exact .inr ⟨h, w, hw, h3, h4⟩
theorem mem_h1upto {near : List (List Int)} (hN : ∀ v x, x ∈ near.getD v [] → 0 ≤ x ∧ x < (n : Int)) : ∀ v, v ≤ n → (h1upto R near n v).length = n ∧ ∀ q y, y ∈ (h1upto R near n v).getD q [] ↔ ∃ w, w < v ∧ (q : Int) = R.getD w 0 ∧ ∃ u ∈ near.getD w [], R.getD u.toNat 0 > R.getD w 0 ∧ y = R.getD u.toNat 0
 | 0, _ => by
  refine ⟨by simp [h1upto], fun q y => ?_⟩
  constructor
  ·intro h
   exfalso
   unfold h1upto at h
   by_cases hq : q < n
   ·simp [hq] at h
   ·simp [hq] at h
  ·rintro ⟨w, hw, _⟩
   omega
 | v + 1, hv => by
  obtain ⟨h1, h2⟩ := mem_h1upto hN v (by omega)
  obtain ⟨h3, h4⟩ := mem_h1row hR v (by omega) (near.getD v []) (h1upto R near n v) h1 (hN v)
  refine ⟨h3, fun q y => (h4 q y).trans ?_⟩
  rw [h2 q y]
  constructor
  ·rintro (⟨w, hw, h⟩ | h)
   ·exact ⟨w, by omega, h⟩
   ·exact ⟨v, by omega, h⟩
  ·rintro ⟨w, hw, h⟩
   by_cases e : w = v
   ·subst e
    exact .inr h
   ·exact .inl ⟨w, by omega, h⟩
end
section
variable {n : Nat} {L : List Int} {st : List (List Int) × HSt} (hG0 : st.1.length = n) (hU : ∀ q y, y ∈ st.1.getD q [] → (q : Int) < y ∧ y < (n : Int))
def plS (L : List Int) (st : List (List Int) × HSt) (r : Nat) : List Int := setOf ((h2upto L st r).1.getD r [])
theorem h2row_fst (L : List Int) (r : Nat) (l : List Int) (st : List (List Int) × HSt) : ∀ i, (h2row L r l st i).1.length = st.1.length
 | 0 => rfl
 | i + 1 => by
  show (if 0 < i then hpush (h2row L r l st i).1 (l.getD 0 0).toNat (l.getD i 0) else (h2row L r l st i).1).length = _
  split
  ·rw [length_hpush]; exact h2row_fst L r l st i
  ·exact h2row_fst L r l st i
theorem h2upto_len (L : List Int) (st : List (List Int) × HSt) : ∀ r, (h2upto L st r).1.length = st.1.length
 | 0 => rfl
 | r + 1 => by
  show (h2row L r (plS L st r) (h2upto L st r) (plS L st r).length).1.length = _
  rw [h2row_fst, h2upto_len L st r]
theorem mem_h2row (r : Nat) (l : List Int) (s : List (List Int) × HSt) (hl : l ≠ [] → (l.getD 0 0).toNat < s.1.length) : ∀ i, i ≤ l.length → ∀ q y, y ∈ (h2row L r l s i).1.getD q [] ↔ y ∈ s.1.getD q [] ∨ (q = (l.getD 0 0).toNat ∧ ∃ k, 0 < k ∧ k < i ∧ y = l.getD k 0)
 | 0, _, q, y => by simp [h2row]
 | i + 1, hi, q, y => by
  have ih := mem_h2row r l s hl i (by omega) q y
  show y ∈ (if 0 < i then hpush (h2row L r l s i).1 (l.getD 0 0).toNat (l.getD i 0) else (h2row L r l s i).1).getD q [] ↔ _
  by_cases h0 : 0 < i
  ·rw [if_pos h0, mem_hpush (by rw [h2row_fst]; exact hl (fun e => by rw [e] at hi; simp at hi)), ih]
   constructor
   ·rintro ((h | ⟨h, k, h1, h2, h3⟩) | ⟨h, h1⟩)
    ·exact .inl h
    ·exact .inr ⟨h, k, h1, by omega, h3⟩
    ·exact .inr ⟨h, i, h0, by omega, h1⟩
   ·rintro (h | ⟨h, k, h1, h2, h3⟩)
    ·exact .inl (.inl h)
    ·by_cases e : k = i
     ·subst e
      exact .inr ⟨h, h3⟩
     ·exact .inl (.inr ⟨h, k, h1, by omega, h3⟩)
  ·rw [if_neg h0, ih]
   constructor
   ·rintro (h | ⟨h, k, h1, h2, h3⟩)
    ·exact .inl h
    ·exact .inr ⟨h, k, h1, by omega, h3⟩
   ·rintro (h | ⟨h, k, h1, h2, h3⟩)
    ·exact .inl h
    ·omega
include hG0 hU
theorem mem_pl_pre : ∀ r, r ≤ n → (∀ j, j < r → ∀ y ∈ plS L st j, (j : Int) < y ∧ y < (n : Int)) ∧ ∀ q y, y ∈ (h2upto L st r).1.getD q [] ↔ y ∈ st.1.getD q [] ∨ ∃ j, j < r ∧ (q : Int) = (plS L st j).getD 0 0 ∧ ∃ k, 0 < k ∧ k < (plS L st j).length ∧ y = (plS L st j).getD k 0
 | 0, _ => ⟨fun j hj => absurd hj (Nat.not_lt_zero _), fun q y => by
  constructor
  ·exact fun h => .inl h
  ·rintro (h | ⟨j, hj, _⟩)
   ·exact h
   ·omega⟩
 | r + 1, hr => by
  obtain ⟨ih1, ih2⟩ := mem_pl_pre r (by omega)
  have hbig : ∀ y ∈ plS L st r, (r : Int) < y ∧ y < (n : Int) := fun y hy => by
   rcases (ih2 r y).1 (mem_setOf.1 hy) with h | ⟨j, hj, hq, k, hk0, hk, hyk⟩
   ·exact hU r y h
   ·have h1 := inc_setOf ((h2upto L st j).1.getD j [])
    have h2 : (plS L st j).getD 0 0 < (plS L st j).getD k 0 := by
     have h3 := (List.pairwise_iff_getElem.1 h1) 0 k (by unfold plS at hk; omega) hk hk0
     rw [List.getD_eq_getElem?_getD, List.getElem?_eq_getElem (by omega), List.getD_eq_getElem?_getD, List.getElem?_eq_getElem hk]
     exact h3
    have h4 := ih1 j hj _ (mem_getD hk)
    omega
  refine ⟨fun j hj => ?_, fun q y => ?_⟩
  ·by_cases e : j = r
   ·subst e; exact hbig
   ·exact ih1 j (by omega)
  ·show y ∈ (h2row L r (plS L st r) (h2upto L st r) (plS L st r).length).1.getD q [] ↔ _
   have hl0 : plS L st r ≠ [] → ((plS L st r).getD 0 0).toNat < (h2upto L st r).1.length := fun hne => by
    rw [h2upto_len, hG0]
    have := hbig _ (mem_getD (List.length_pos_iff.2 hne))
    omega
   rw [mem_h2row r (plS L st r) (h2upto L st r) hl0 _ (Nat.le_refl _) q y, ih2 q y]
   constructor
   ·rintro ((h | ⟨j, hj, h⟩) | ⟨h, k, h1, h2, h3⟩)
    ·exact .inl h
    ·exact .inr ⟨j, by omega, h⟩
    ·have := hbig _ (mem_getD (show 0 < (plS L st r).length by omega))
     exact .inr ⟨r, by omega, by omega, k, h1, h2, h3⟩
   ·rintro (h | ⟨j, hj, hq, h⟩)
    ·exact .inl (.inl h)
    ·by_cases e : j = r
     ·subst e
      obtain ⟨k, h1, h2, h3⟩ := h
      exact .inr ⟨by omega, k, h1, h2, h3⟩
     ·exact .inl (.inr ⟨j, by omega, hq, h⟩)
theorem pl_rng {r : Nat} (hr : r < n) : ∀ y ∈ plS L st r, (r : Int) < y ∧ y < (n : Int) := (mem_pl_pre hG0 hU (r + 1) (by omega)).1 r (by omega)
theorem mem_pl {r : Nat} (hr : r < n) (y : Int) : y ∈ plS L st r ↔ y ∈ st.1.getD r [] ∨ ∃ j, j < r ∧ (r : Int) = (plS L st j).getD 0 0 ∧ y ∈ plS L st j ∧ y ≠ (r : Int) := by
 refine (show y ∈ plS L st r ↔ y ∈ (h2upto L st r).1.getD r [] from mem_setOf).trans ?_
 rw [(mem_pl_pre hG0 hU r (by omega)).2 r y]
 constructor
 ·rintro (h | ⟨j, hj, hq, k, h1, h2, h3⟩)
  ·exact .inl h
  ·refine .inr ⟨j, hj, hq, h3 ▸ mem_getD h2, ?_⟩
   have h4 := (List.pairwise_iff_getElem.1 (inc_setOf ((h2upto L st j).1.getD j []))) 0 k (by unfold plS at h2; omega) h2 h1
   have h5 : (plS L st j)[0]'(by omega) < (plS L st j)[k] := h4
   rw [h3, hq, getD_at h2, getD_at (by omega)]
   omega
 ·rintro (h | ⟨j, hj, hq, hy, hne⟩)
  ·exact .inl h
  ·obtain ⟨k, hk, e⟩ := List.mem_iff_getElem.1 hy
   refine .inr ⟨j, hj, hq, k, ?_, hk, ?_⟩
   ·rcases Nat.eq_zero_or_pos k with h0 | h0
    ·exfalso
     subst h0
     apply hne
     rw [hq, ← e, getD_at hk]
    ·exact h0
   ·rw [← e, getD_at hk]
theorem pl_chord {r : Nat} (hr : r < n) {s : Int} (hrs : (r : Int) < s) : ∀ (d j : Nat), j + d = r → 0 < d → (r : Int) ∈ plS L st j → s ∈ plS L st j → s ∈ plS L st r
 | d, j, hd, h0, hrj, hsj => by
  have hne : plS L st j ≠ [] := fun e => by rw [e] at hrj; simp at hrj
  have hm := mem_getD (List.length_pos_iff.2 hne)
  have hmr := pl_rng hG0 hU (L := L) (st := st) (r := j) (by omega) _ hm
  have hmin : ∀ y ∈ plS L st j, (plS L st j).getD 0 0 ≤ y := fun y hy => by
   obtain ⟨k, hk, e⟩ := List.mem_iff_getElem.1 hy
   rcases Nat.eq_zero_or_pos k with h1 | h1
   ·subst h1
    rw [← e, List.getD_eq_getElem?_getD, List.getElem?_eq_getElem hk]
    exact Int.le_refl _
   ·have h4 := (List.pairwise_iff_getElem.1 (inc_setOf ((h2upto L st j).1.getD j []))) 0 k (by unfold plS at hk; omega) hk h1
    rw [← e, List.getD_eq_getElem?_getD, List.getElem?_eq_getElem (by omega)]
    exact Int.le_of_lt h4
  have hle := hmin _ hrj
  obtain ⟨m, hme⟩ := Int.eq_ofNat_of_zero_le (show 0 ≤ (plS L st j).getD 0 0 by omega)
  rw [hme] at hmr hle
  by_cases e : m = r
  ·subst e
   exact (mem_pl hG0 hU hr s).2 (.inr ⟨j, by omega, hme.symm, hsj, by omega⟩)
  ·have hmn : m < r := by omega
   have h1 : (r : Int) ∈ plS L st m := (mem_pl hG0 hU (show m < n by omega) _).2 (.inr ⟨j, by omega, hme.symm, hrj, by omega⟩)
   have h2 : s ∈ plS L st m := (mem_pl hG0 hU (show m < n by omega) _).2 (.inr ⟨j, by omega, hme.symm, hsj, by omega⟩)
   exact pl_chord hr hrs (r - m) m (by omega) (by omega) h1 h2
termination_by d => d
decreasing_by omega
end
theorem mem_set_ins {N : List (List Int)} {i w : Nat} {x y : Int} (hi : i < N.length) : y ∈ (N.set i (ins x (N.getD i []))).getD w [] ↔ y ∈ N.getD w [] ∨ (w = i ∧ y = x) := by
 rw [getD_set_list]
 by_cases e : i = w
 ·subst e
  rw [if_pos ⟨rfl, hi⟩, mem_ins]
  constructor
  ·rintro (h | h)
   ·exact .inr ⟨rfl, h⟩
   ·exact .inl h
  ·rintro (h | ⟨_, h⟩)
   ·exact .inr h
   ·exact .inl h
 ·rw [if_neg (fun h => e h.1)]
  constructor
  ·exact .inl
  ·rintro (h | ⟨h, _⟩)
   ·exact h
   ·exact absurd h.symm e
section
variable {n : Nat} {up : List Int} (hu : ∀ x ∈ up, 0 ≤ x ∧ x < (n : Int))
include hu
theorem mem_e3upto {N : List (List Int)} (hN : NGood n N) {k : Nat} (hk : k < up.length) : ∀ j, j ≤ up.length → ∀ (w : Nat) (y : Int), y ∈ (e3upto up k N j).getD w [] ↔ y ∈ N.getD w [] ∨ ((w : Int) = up.getD k 0 ∧ ∃ m, m < j ∧ m ≠ k ∧ y = up.getD m 0)
 | 0, _, w, y => by simp [e3upto]
 | j + 1, hj, w, y => by
  have ih := mem_e3upto hN hk j (by omega) w y
  have hg := e3upto_good hN hu (k := k) j (by omega)
  have hx := hu _ (mem_getD hk)
  show y ∈ (e3step up k (e3upto up k N j) j).getD w [] ↔ _
  unfold e3step
  by_cases e : j = k
  ·rw [if_neg (fun h => h e), ih]
   constructor
   ·rintro (h | ⟨h, m, h1, h2, h3⟩)
    ·exact .inl h
    ·exact .inr ⟨h, m, by omega, h2, h3⟩
   ·rintro (h | ⟨h, m, h1, h2, h3⟩)
    ·exact .inl h
    ·exact .inr ⟨h, m, by omega, h2, h3⟩
  ·rw [if_pos e, mem_set_ins (by rw [hg.len]; omega), ih]
   constructor
   ·rintro ((h | ⟨h, m, h1, h2, h3⟩) | ⟨h, h1⟩)
    ·exact .inl h
    ·exact .inr ⟨h, m, by omega, h2, h3⟩
    ·exact .inr ⟨by omega, j, by omega, e, h1⟩
   ·rintro (h | ⟨h, m, h1, h2, h3⟩)
    ·exact .inl (.inl h)
    ·by_cases e2 : m = j
     ·subst e2
      exact .inr ⟨by omega, h3⟩
     ·exact .inl (.inr ⟨h, m, by omega, h2, h3⟩)
theorem mem_e2upto (v : Int) {st : List S58 × List (List Int)} (hN : NGood n st.2) : ∀ k, k ≤ up.length → NGood n (e2upto v up st k).2 ∧ ∀ (w : Nat) (y : Int), y ∈ (e2upto v up st k).2.getD w [] ↔ y ∈ st.2.getD w [] ∨ ∃ k', k' < k ∧ (w : Int) = up.getD k' 0 ∧ ∃ m, m < up.length ∧ m ≠ k' ∧ y = up.getD m 0
 | 0, _ => ⟨hN, fun w y => by simp [e2upto]⟩
 | k + 1, hk => by
  obtain ⟨h1, h2⟩ := mem_e2upto v hN k (by omega)
  refine ⟨e3upto_good h1 hu _ (Nat.le_refl _), fun w y => ?_⟩
  show y ∈ (e3upto up k (e2upto v up st k).2 up.length).getD w [] ↔ _
  rw [mem_e3upto hu h1 (by omega) _ (Nat.le_refl _), h2]
  constructor
  ·rintro ((h | ⟨k', h3, h4⟩) | ⟨h3, h4⟩)
   ·exact .inl h
   ·exact .inr ⟨k', by omega, h4⟩
   ·exact .inr ⟨k, by omega, h3, h4⟩
  ·rintro (h | ⟨k', h3, h4, h5⟩)
   ·exact .inl (.inl h)
   ·by_cases e : k' = k
    ·subst e
     exact .inr ⟨h4, h5⟩
    ·exact .inl (.inr ⟨k', by omega, h4, h5⟩)
theorem e2_both (hnd : up.Nodup) (v : Int) {st : List S58 × List (List Int)} (hN : NGood n st.2) (w : Nat) (y : Int) : y ∈ (e2upto v up st up.length).2.getD w [] ↔ y ∈ st.2.getD w [] ∨ ((w : Int) ∈ up ∧ y ∈ up ∧ y ≠ (w : Int)) := by
 rw [(mem_e2upto hu v hN _ (Nat.le_refl _)).2 w y]
 constructor
 ·rintro (h | ⟨k, hk, hw, m, hm, hmk, hy⟩)
  ·exact .inl h
  ·refine .inr ⟨hw ▸ mem_getD hk, hy ▸ mem_getD hm, fun e => hmk ?_⟩
   rw [hy, hw, getD_at hm, getD_at hk] at e
   exact (List.getElem?_inj hm hnd).1 (by rw [List.getElem?_eq_getElem hm, List.getElem?_eq_getElem hk, e])
 ·rintro (h | ⟨hw, hy, hne⟩)
  ·exact .inl h
  ·obtain ⟨k, hk, e1⟩ := List.mem_iff_getElem.1 hw
   obtain ⟨m, hm, e2⟩ := List.mem_iff_getElem.1 hy
   refine .inr ⟨k, hk, by rw [getD_at hk, e1], m, hm, fun e => hne ?_, by rw [getD_at hm, e2]⟩
   subst e
   rw [← e2, e1]
omit hu in
theorem e2_edges (v : Int) (up : List Int) (st : List S58 × List (List Int)) : ∀ k, k ≤ up.length → (e2upto v up st k).1 = st.1 ++ (up.take k).map (fun u => ⟨v, u⟩)
 | 0, _ => by simp [e2upto]
 | k + 1, hk => by
  show (e2upto v up st k).1 ++ [_] = _
  rw [e2_edges v up st k (by omega), take_getD_succ (by omega), List.map_append, List.append_assoc]
  rfl
end
section
variable {n : Nat} {L : List Int} (hL : IsOrd n L) {near0 : List (List Int)} (hN0 : NGood n near0)
def ruS (L : List Int) (near0 : List (List Int)) (i : Nat) : List Int := laterS L ((e1upto L ([], near0) i).2.getD (L.getD i 0).toNat []) i
include hL
theorem ord_vx {s : Nat} (hs : s < n) : 0 ≤ L.getD s 0 ∧ L.getD s 0 < (n : Int) := hL.rng _ (mem_getD (by rw [hL.len]; exact hs))
theorem ord_inj {s t : Nat} (hs : s < n) (ht : t < n) (h : L.getD s 0 = L.getD t 0) : s = t := by
 have h1 : s < L.length := by rw [hL.len]; exact hs
 have h2 : t < L.length := by rw [hL.len]; exact ht
 rw [getD_at h1, getD_at h2] at h
 exact (List.getElem?_inj h1 hL.nd).1 (by rw [List.getElem?_eq_getElem h1, List.getElem?_eq_getElem h2, h])
theorem rank_of {s : Nat} (hs : s < n) : (ranksTo L L.length).getD (L.getD s 0).toNat 0 = (s : Int) := by
 have h1 : s < L.length := by rw [hL.len]; exact hs
 have h2 := ranks_at hL.nd (fun v hv => by have := hL.rng v hv; rw [hL.len]; exact this) s h1
 rw [getD_at h1, List.getD_eq_getElem?_getD, h2]
 rfl
theorem at_rank {v : Nat} (hv : v < n) : ∃ s : Nat, s < n ∧ (ranksTo L L.length).getD v 0 = (s : Int) ∧ L.getD s 0 = (v : Int) := by
 obtain ⟨j, hj, h1, h2⟩ := ranks_val hL.nd (fun v hv => by have := hL.rng v hv; rw [hL.len]; exact this) v (by rw [hL.len]; exact hv)
 refine ⟨j, by rw [← hL.len]; exact hj, ?_, by rw [getD_at hj, h1]⟩
 rw [List.getD_eq_getElem?_getD, h2]
 rfl
theorem mem_later (of : List Int) {i : Nat} (x : Int) : x ∈ laterS L of i ↔ ∃ s : Nat, i < s ∧ s < n ∧ L.getD s 0 = x ∧ x ∈ of := by
 unfold laterS
 rw [List.mem_filter, decide_eq_true_eq]
 constructor
 ·rintro ⟨h1, h2⟩
  obtain ⟨k, hk, e⟩ := List.mem_iff_getElem.1 h1
  rw [List.length_drop] at hk
  rw [List.getElem_drop] at e
  exact ⟨i + 1 + k, by omega, by have := hL.len; omega, by rw [getD_at (by omega)]; exact e, h2⟩
 ·rintro ⟨s, h1, h2, h3, h4⟩
  refine ⟨?_, h4⟩
  have hs : s < L.length := by rw [hL.len]; exact h2
  refine List.mem_iff_getElem.2 ⟨s - (i + 1), by rw [List.length_drop]; omega, ?_⟩
  rw [List.getElem_drop, ← h3, getD_at hs]
  congr 1
  omega
theorem later_nd (of : List Int) (i : Nat) : (laterS L of i).Nodup := (hL.nd.sublist (List.drop_sublist (i + 1) L)).sublist List.filter_sublist
theorem later_rng (of : List Int) (i : Nat) : ∀ x ∈ laterS L of i, 0 ≤ x ∧ x < (n : Int) := fun x hx => hL.rng x (List.mem_of_mem_drop (List.mem_filter.1 hx).1)
include hN0
theorem mem_refN : ∀ i, i ≤ n → NGood n (e1upto L ([], near0) i).2 ∧ ∀ (w : Nat) (y : Int), y ∈ (e1upto L ([], near0) i).2.getD w [] ↔ y ∈ near0.getD w [] ∨ ∃ j, j < i ∧ (w : Int) ∈ ruS L near0 j ∧ y ∈ ruS L near0 j ∧ y ≠ (w : Int)
 | 0, _ => ⟨hN0, fun w y => by simp [e1upto]⟩
 | i + 1, hi => by
  obtain ⟨h1, h2⟩ := mem_refN i (by omega)
  have hr := later_rng hL ((e1upto L ([], near0) i).2.getD (L.getD i 0).toNat []) i
  have hd := later_nd hL ((e1upto L ([], near0) i).2.getD (L.getD i 0).toNat []) i
  refine ⟨(mem_e2upto hr _ h1 _ (Nat.le_refl _)).1, fun w y => ?_⟩
  refine (e2_both hr hd (L.getD i 0) h1 w y).trans ?_
  rw [h2]
  constructor
  ·rintro ((h | ⟨j, hj, h⟩) | h)
   ·exact .inl h
   ·exact .inr ⟨j, by omega, h⟩
   ·exact .inr ⟨i, by omega, h⟩
  ·rintro (h | ⟨j, hj, h⟩)
   ·exact .inl (.inl h)
   ·by_cases e : j = i
    ·subst e
     exact .inr h
    ·exact .inl (.inr ⟨j, by omega, h⟩)
theorem mem_ru {i s : Nat} (hi : i < n) (hs : s < n) : L.getD s 0 ∈ ruS L near0 i ↔ i < s ∧ (L.getD s 0 ∈ near0.getD (L.getD i 0).toNat [] ∨ ∃ j, j < i ∧ L.getD i 0 ∈ ruS L near0 j ∧ L.getD s 0 ∈ ruS L near0 j) := by
 have hv := ord_vx hL hi
 unfold ruS
 rw [mem_later hL]
 constructor
 ·rintro ⟨t, h1, h2, h3, h4⟩
  have e := ord_inj hL h2 hs h3
  subst e
  refine ⟨h1, ?_⟩
  rcases ((mem_refN hL hN0 i (by omega)).2 _ _).1 h4 with h | ⟨j, hj, h5, h6, h7⟩
  ·exact .inl h
  ·refine .inr ⟨j, hj, ?_, h6⟩
   rw [Int.toNat_of_nonneg hv.1] at h5
   exact h5
 ·rintro ⟨h1, h2⟩
  refine ⟨s, h1, hs, rfl, ((mem_refN hL hN0 i (by omega)).2 _ _).2 ?_⟩
  rcases h2 with h | ⟨j, hj, h5, h6⟩
  ·exact .inl h
  ·refine .inr ⟨j, hj, ?_, h6, fun e => ?_⟩
   ·rw [Int.toNat_of_nonneg hv.1]
    exact h5
   ·rw [Int.toNat_of_nonneg hv.1] at e
    have := ord_inj hL hs hi e
    omega
def hk0 (n : Nat) (L : List Int) (near0 : List (List Int)) : List (List Int) × HSt := (h1upto (ranksTo L L.length) near0 n n, hst0 n)
omit hN0 in
theorem rng_ranks : ∀ v, v < n → 0 ≤ (ranksTo L L.length).getD v 0 ∧ (ranksTo L L.length).getD v 0 < (n : Int) := fun v hv => by
 obtain ⟨s, h1, h2, _⟩ := at_rank hL hv
 rw [h2]
 omega
theorem mem_H1 (q : Nat) (y : Int) : y ∈ (hk0 n L near0).1.getD q [] ↔ ∃ s : Nat, s < n ∧ y = (s : Int) ∧ q < s ∧ L.getD s 0 ∈ near0.getD (L.getD q 0).toNat [] := by
 rw [show (hk0 n L near0).1 = h1upto (ranksTo L L.length) near0 n n from rfl, (mem_h1upto (rng_ranks hL) hN0.rng n (Nat.le_refl _)).2 q y]
 constructor
 ·rintro ⟨w, hw, hq, u, hu, hgt, hy⟩
  obtain ⟨a, ha, h1, h2⟩ := at_rank hL hw
  have hur := hN0.rng w u hu
  obtain ⟨b, hb, h3, h4⟩ := at_rank hL (show u.toNat < n by omega)
  rw [h1] at hq hgt
  rw [h3] at hgt hy
  have e : q = a := by omega
  subst e
  refine ⟨b, hb, hy, by omega, ?_⟩
  rw [h4, h2, Int.toNat_natCast, Int.toNat_of_nonneg hur.1]
  exact hu
 ·rintro ⟨s, hs, rfl, hqs, hm⟩
  have hv := ord_vx hL (show q < n by omega)
  have hu := ord_vx hL hs
  refine ⟨(L.getD q 0).toNat, by omega, (rank_of hL (show q < n by omega)).symm, L.getD s 0, hm, ?_, (rank_of hL hs).symm⟩
  rw [rank_of hL (show q < n by omega), rank_of hL hs]
  omega
theorem hk0_len : (hk0 n L near0).1.length = n := (mem_h1upto (rng_ranks hL) hN0.rng n (Nat.le_refl _)).1
theorem hk0_up : ∀ q y, y ∈ (hk0 n L near0).1.getD q [] → (q : Int) < y ∧ y < (n : Int) := fun q y h => by
 obtain ⟨s, h1, rfl, h2, _⟩ := (mem_H1 hL hN0 q y).1 h
 omega
theorem pl_ru : ∀ (r : Nat), r < n → ∀ s : Nat, s < n → (L.getD s 0 ∈ ruS L near0 r ↔ (s : Int) ∈ plS L (hk0 n L near0) r) := by
 intro r
 induction r using Nat.strongRecOn with
 | _ r ih =>
  intro hr s hs
  rw [mem_ru hL hN0 hr hs, mem_pl (hk0_len hL hN0) (hk0_up hL hN0) hr]
  constructor
  ·rintro ⟨h1, h | ⟨j, hj, h2, h3⟩⟩
   ·exact .inl ((mem_H1 hL hN0 r s).2 ⟨s, hs, rfl, h1, h⟩)
   ·have h4 := (ih j hj (by omega) r hr).1 h2
    have h5 := (ih j hj (by omega) s hs).1 h3
    exact (mem_pl (hk0_len hL hN0) (hk0_up hL hN0) hr _).1 (pl_chord (hk0_len hL hN0) (hk0_up hL hN0) hr (by omega) (r - j) j (by omega) (by omega) h4 h5)
  ·rintro (h | ⟨j, hj, h1, h2, h3⟩)
   ·obtain ⟨t, h1, h2, h3, h4⟩ := (mem_H1 hL hN0 r s).1 h
    have e : s = t := by omega
    subst e
    exact ⟨h3, .inl h4⟩
   ·have hne : plS L (hk0 n L near0) j ≠ [] := fun e => by rw [e] at h2; simp at h2
    have hm := mem_getD (List.length_pos_iff.2 hne)
    rw [← h1] at hm
    have hlt : r < s := by
     obtain ⟨k, hk, e⟩ := List.mem_iff_getElem.1 h2
     rcases Nat.eq_zero_or_pos k with h0 | h0
     ·subst h0
      rw [getD_at hk, e] at h1
      omega
     ·have h4 := (List.pairwise_iff_getElem.1 (inc_setOf ((h2upto L (hk0 n L near0) j).1.getD j []))) 0 k (by unfold plS at hk; omega) hk h0
      have h5 : (plS L (hk0 n L near0) j)[0]'(by omega) < (plS L (hk0 n L near0) j)[k] := h4
      rw [getD_at (by omega)] at h1
      omega
    exact ⟨hlt, .inr ⟨j, hj, (ih j hj (by omega) r hr).2 hm, (ih j hj (by omega) s hs).2 h2⟩⟩
theorem ru_eq {r : Nat} (hr : r < n) : ruS L near0 r = (plS L (hk0 n L near0) r).map (fun s => L.getD s.toNat 0) := by
 have h1 : ∀ s ∈ plS L (hk0 n L near0) r, (r : Int) < s ∧ s < (n : Int) := pl_rng (hk0_len hL hN0) (hk0_up hL hN0) hr
 have hd : L.drop (r + 1) = (List.range' (r + 1) (n - (r + 1))).map (fun s => L.getD s 0) := by
  apply List.ext_getElem
  ·rw [List.length_drop, List.length_map, List.length_range', hL.len]
  ·intro i h2 h3
   rw [List.length_drop] at h2
   rw [List.getElem_drop, List.getElem_map, List.getElem_range', getD_at (by omega)]
   congr 1
   omega
 have h2 : ruS L near0 r = ((List.range' (r + 1) (n - (r + 1))).filter (fun s => decide (L.getD s 0 ∈ (e1upto L ([], near0) r).2.getD (L.getD r 0).toNat []))).map (fun s => L.getD s 0) := by
  unfold ruS laterS
  rw [hd, List.filter_map]
  rfl
 have h3 : plS L (hk0 n L near0) r = ((List.range' (r + 1) (n - (r + 1))).filter (fun s => decide (L.getD s 0 ∈ (e1upto L ([], near0) r).2.getD (L.getD r 0).toNat []))).map (fun (s : Nat) => (s : Int)) := by
  refine inc_unique (inc_setOf _) ?_ (fun x => ?_)
  ·unfold Inc
   rw [List.pairwise_map]
   refine List.Pairwise.imp (R := (· < ·)) (fun h => by omega) ?_
   exact (List.pairwise_lt_range' (s := r + 1) (n := n - (r + 1))).sublist List.filter_sublist
  ·have hru : ∀ s : Nat, s < n → r < s → (L.getD s 0 ∈ ruS L near0 r ↔ L.getD s 0 ∈ (e1upto L ([], near0) r).2.getD (L.getD r 0).toNat []) := fun s hs hrs => by
    unfold ruS
    rw [mem_later hL]
    constructor
    ·rintro ⟨_, _, _, _, h⟩
     exact h
    ·exact fun h => ⟨s, hrs, hs, rfl, h⟩
   rw [List.mem_map]
   constructor
   ·intro hx
    have h4 := h1 x hx
    obtain ⟨s, rfl⟩ := Int.eq_ofNat_of_zero_le (show 0 ≤ x by omega)
    refine ⟨s, List.mem_filter.2 ⟨List.mem_range'_1.2 (by omega), ?_⟩, rfl⟩
    rw [decide_eq_true_eq]
    exact (hru s (by omega) (by omega)).1 ((pl_ru hL hN0 r hr s (by omega)).2 hx)
   ·rintro ⟨s, hs, rfl⟩
    obtain ⟨h4, h5⟩ := List.mem_filter.1 hs
    have h6 := List.mem_range'_1.1 h4
    rw [decide_eq_true_eq] at h5
    exact (pl_ru hL hN0 r hr s (by omega)).1 ((hru s (by omega) (by omega)).2 h5)
 rw [h2, h3, List.map_map]
 apply List.map_congr_left
 intro s _
 simp
end
def rankEdges (pl : Nat → List Int) : Nat → List (Int × Int)
 | 0 => []
 | r + 1 => rankEdges pl r ++ (pl r).map (fun s => ((r : Int), s))
def toArc (L : List Int) (p : Int × Int) : S58 := ⟨L.getD p.1.toNat 0, L.getD p.2.toNat 0⟩
theorem mem_rankEdges {pl : Nat → List Int} {a b : Int} : ∀ r, (a, b) ∈ rankEdges pl r ↔ ∃ k : Nat, k < r ∧ a = (k : Int) ∧ b ∈ pl k
 | 0 => by simp [rankEdges]
 | r + 1 => by
  unfold rankEdges
  rw [List.mem_append, mem_rankEdges r, List.mem_map]
  constructor
  ·rintro (⟨k, h1, h2⟩ | ⟨s, h1, h2⟩)
   ·exact ⟨k, by omega, h2⟩
   ·injection h2 with h3 h4
    exact ⟨r, by omega, h3.symm, h4 ▸ h1⟩
  ·rintro ⟨k, h1, h2, h3⟩
   by_cases e : k = r
   ·subst e
    exact .inr ⟨b, h3, by rw [h2]⟩
   ·exact .inl ⟨k, by omega, h2, h3⟩
def LexLt (a b : Int × Int) : Prop := a.1 < b.1 ∨ (a.1 = b.1 ∧ a.2 < b.2)
theorem rankEdges_lex {pl : Nat → List Int} (hp : ∀ k, Inc (pl k)) : ∀ r, (rankEdges pl r).Pairwise LexLt
 | 0 => List.Pairwise.nil
 | r + 1 => by
  unfold rankEdges
  rw [List.pairwise_append]
  refine ⟨rankEdges_lex hp r, ?_, ?_⟩
  ·rw [List.pairwise_map]
   exact (hp r).imp (fun h => .inr ⟨rfl, h⟩)
  ·rintro ⟨a, b⟩ h1 ⟨c, d⟩ h2
   obtain ⟨k, h3, h4, _⟩ := (mem_rankEdges r).1 h1
   obtain ⟨s, _, h6⟩ := List.mem_map.1 h2
   injection h6 with h7 h8
   left
   show a < c
   omega
/-! ### The parts of what is gathered -/
def isE (u v : Int) (e : S58) : Bool := decide (e.f0 = u ∧ e.f1 = v)
def upIx (es : List S58) (v : Int) : List Int := (es.zipIdx.filter (fun p => decide (p.1.f0 = v))).map (fun p => (p.2 : Int))
def dnL (es : List S58) (v : Int) : List Int := (es.filter (fun e => decide (e.f1 = v))).map (fun e => e.f0)
structure HInv (n : Nat) (S : HSt) : Prop where
 lenu : S.ups.length = n
 lend : S.downs.length = n
 num : ∀ u v : Int, mget S.num (u, v) = (S.edges.findIdx? (isE u v)).map (fun i : Nat => (i : Int))
 ups : ∀ v : Nat, v < n → S.ups.getD v [] = upIx S.edges v
 downs : ∀ v : Nat, v < n → S.downs.getD v [] = dnL S.edges v
theorem HInv.start (n : Nat) : HInv n (hst0 n) := by
 refine ⟨List.length_replicate .., List.length_replicate .., fun u v => rfl, fun v hv => ?_, fun v hv => ?_⟩
 ·show (List.replicate n ([] : List Int)).getD v [] = []
  simp [hv]
 ·show (List.replicate n ([] : List Int)).getD v [] = []
  simp [hv]
theorem HInv.add {n : Nat} {S : HSt} (h : HInv n S) {u v : Nat} (hu : u < n) (hv : v < n) (hnew : ∀ e ∈ S.edges, ¬ (e.f0 = (u : Int) ∧ e.f1 = (v : Int))) : HInv n (hadd S u v) := by
 refine ⟨by simp [hadd, h.lenu], by simp [hadd, h.lend], fun a b => ?_, fun x hx => ?_, fun x hx => ?_⟩
 ·show mget (mput S.num ((u : Int), (v : Int)) (S.edges.length : Int)) (a, b) = (List.findIdx? (isE a b) (S.edges ++ [⟨(u : Int), (v : Int)⟩])).map _
  rw [mget_mput, List.findIdx?_append, h.num]
  by_cases e : ((u : Int), (v : Int)) = (a, b)
  ·injection e with e1 e2
   subst e1 e2
   have h1 : S.edges.findIdx? (isE (u : Int) (v : Int)) = none := by
    rw [List.findIdx?_eq_none_iff]
    intro x hx
    exact decide_eq_false (hnew x hx)
   rw [if_pos rfl, h1]
   simp [isE]
  ·rw [if_neg e]
   have h1 : [(⟨(u : Int), (v : Int)⟩ : S58)].findIdx? (isE a b) = none := by
    rw [List.findIdx?_eq_none_iff]
    intro x hx
    rw [List.mem_singleton] at hx
    subst hx
    exact decide_eq_false (fun h => e (by rw [← h.1, ← h.2]))
   rw [h1]
   simp
 ·show (S.ups.set u (S.ups.getD u [] ++ [(S.edges.length : Int)])).getD x [] = upIx (S.edges ++ [⟨(u : Int), (v : Int)⟩]) x
  have h1 : upIx (S.edges ++ [⟨(u : Int), (v : Int)⟩]) (x : Int) = upIx S.edges x ++ if u = x then [(S.edges.length : Int)] else [] := by
   unfold upIx
   rw [List.zipIdx_append, List.filter_append, List.map_append]
   congr 1
   by_cases e : u = x
   ·subst e
    simp
   ·have : ¬ (u : Int) = (x : Int) := by omega
    simp [e, this]
  rw [getD_set_list, h1]
  by_cases e : u = x
  ·subst e
   rw [if_pos ⟨rfl, by rw [h.lenu]; exact hu⟩, if_pos rfl, h.ups u hu]
  ·rw [if_neg (fun h => e h.1), if_neg e, List.append_nil, h.ups x hx]
 ·show (S.downs.set v (S.downs.getD v [] ++ [(u : Int)])).getD x [] = dnL (S.edges ++ [⟨(u : Int), (v : Int)⟩]) x
  have h1 : dnL (S.edges ++ [⟨(u : Int), (v : Int)⟩]) (x : Int) = dnL S.edges x ++ if v = x then [(u : Int)] else [] := by
   unfold dnL
   rw [List.filter_append, List.map_append]
   congr 1
   by_cases e : v = x
   ·subst e
    simp
   ·have : ¬ (v : Int) = (x : Int) := by omega
    simp [e, this]
  rw [getD_set_list, h1]
  by_cases e : v = x
  ·subst e
   rw [if_pos ⟨rfl, by rw [h.lend]; exact hv⟩, if_pos rfl, h.downs v hv]
  ·rw [if_neg (fun h => e h.1), if_neg e, List.append_nil, h.downs x hx]
section
variable {n : Nat} {L : List Int} (hL : IsOrd n L) {near0 : List (List Int)} (hN0 : NGood n near0)
include hL
include hN0
theorem row_inv {r : Nat} (hr : r < n) {s : List (List Int) × HSt} (hI : HInv n s.2) (hE : s.2.edges = (rankEdges (plS L (hk0 n L near0)) r).map (toArc L)) : ∀ i, i ≤ (plS L (hk0 n L near0) r).length →
  HInv n (h2row L r (plS L (hk0 n L near0) r) s i).2 ∧ (h2row L r (plS L (hk0 n L near0) r) s i).2.edges = (rankEdges (plS L (hk0 n L near0)) r ++ ((plS L (hk0 n L near0) r).take i).map (fun x => ((r : Int), x))).map (toArc L)
 | 0, _ => ⟨hI, by rw [List.take_zero, List.map_nil, List.append_nil]; exact hE⟩
 | i + 1, hi => by
  obtain ⟨h1, h2⟩ := row_inv hr hI hE i (by omega)
  have hx := pl_rng (hk0_len hL hN0) (hk0_up hL hN0) hr _ (mem_getD (show i < (plS L (hk0 n L near0) r).length by omega))
  obtain ⟨x, hxe⟩ := Int.eq_ofNat_of_zero_le (show 0 ≤ (plS L (hk0 n L near0) r).getD i 0 by omega)
  have hvr := ord_vx hL hr
  have hvx := ord_vx hL (show x < n by omega)
  have hstep : (h2row L r (plS L (hk0 n L near0) r) s (i + 1)).2 = hadd (h2row L r (plS L (hk0 n L near0) r) s i).2 (L.getD r 0).toNat (L.getD x 0).toNat := by
   show hadd _ (L.getD r 0).toNat (L.getD ((plS L (hk0 n L near0) r).getD i 0).toNat 0).toNat = _
   rw [hxe, Int.toNat_natCast]
  rw [hstep]
  refine ⟨h1.add (by omega) (by omega) (fun e he hc => ?_), ?_⟩
  ·rw [h2, List.mem_map] at he
   obtain ⟨⟨a, b⟩, hab, rfl⟩ := he
   rw [Int.toNat_of_nonneg hvr.1, Int.toNat_of_nonneg hvx.1] at hc
   have hlt := List.pairwise_iff_getElem.1 (inc_setOf ((h2upto L (hk0 n L near0) r).1.getD r []))
   rcases List.mem_append.1 hab with hab | hab
   ·obtain ⟨k, hk, h3, h4⟩ := (mem_rankEdges r).1 hab
    have h5 : L.getD k 0 = L.getD r 0 := by
     have := hc.1
     rw [h3] at this
     exact this
    have := ord_inj hL (show k < n by omega) hr h5
    omega
   ·obtain ⟨y, hy, h3⟩ := List.mem_map.1 hab
    injection h3 with h3 h4
    subst h3 h4
    obtain ⟨j, hj, hje⟩ := List.mem_iff_getElem.1 hy
    rw [List.length_take] at hj
    rw [List.getElem_take] at hje
    have hyr := pl_rng (hk0_len hL hN0) (hk0_up hL hN0) hr y (List.mem_of_mem_take hy)
    obtain ⟨z, rfl⟩ := Int.eq_ofNat_of_zero_le (show 0 ≤ y by omega)
    have h5 : L.getD z 0 = L.getD x 0 := hc.2
    have h6 := ord_inj hL (show z < n by omega) (show x < n by omega) h5
    have h7 : (plS L (hk0 n L near0) r)[j]'(by omega) < (plS L (hk0 n L near0) r)[i]'(by omega) := hlt j i (by unfold plS at hj hi; omega) (by unfold plS at hi; omega) (by omega)
    rw [getD_at (by omega)] at hxe
    omega
  ·show (h2row L r (plS L (hk0 n L near0) r) s i).2.edges ++ [⟨(((L.getD r 0).toNat : Nat) : Int), (((L.getD x 0).toNat : Nat) : Int)⟩] = _
   rw [h2, take_getD_succ (by omega)]
   simp only [List.map_append, List.append_assoc]
   congr 2
   simp only [List.map_cons, List.map_nil, toArc]
   rw [hxe, Int.toNat_natCast, Int.toNat_natCast, Int.toNat_of_nonneg hvr.1, Int.toNat_of_nonneg hvx.1]
theorem upto_inv : ∀ r, r ≤ n → HInv n (h2upto L (hk0 n L near0) r).2 ∧ (h2upto L (hk0 n L near0) r).2.edges = (rankEdges (plS L (hk0 n L near0)) r).map (toArc L)
 | 0, _ => ⟨HInv.start n, rfl⟩
 | r + 1, hr => by
  obtain ⟨h1, h2⟩ := upto_inv r (by omega)
  have h3 := row_inv hL hN0 (show r < n by omega) h1 h2 _ (Nat.le_refl _)
  rw [List.take_length] at h3
  exact h3
theorem ref_edges : ∀ i, i ≤ n → (e1upto L ([], near0) i).1 = (rankEdges (plS L (hk0 n L near0)) i).map (toArc L)
 | 0, _ => rfl
 | i + 1, hi => by
  have h1 := ref_edges i (by omega)
  have h2 := e2_edges (L.getD i 0) (ruS L near0 i) (e1upto L ([], near0) i) _ (Nat.le_refl _)
  rw [List.take_length] at h2
  show (e2upto (L.getD i 0) (ruS L near0 i) (e1upto L ([], near0) i) (ruS L near0 i).length).1 = _
  rw [h2, h1, ru_eq hL hN0 (by omega)]
  show _ = List.map (toArc L) (rankEdges (plS L (hk0 n L near0)) i ++ (plS L (hk0 n L near0) i).map (fun s => ((i : Int), s)))
  rw [List.map_append, List.map_map, List.map_map]
  congr 1
end
/-! ### The hierarchy of a graph and an order -/
def rkE (n : Nat) (arcs : List S58) (L : List Int) : List (Int × Int) := rankEdges (plS L (hk0 n L (nbRows n arcs))) n
structure Hk (n : Nat) (arcs : List S58) (L : List Int) : Prop where
 chk : chk (n : Int) arcs = 0
 ord : IsOrd n L
section
variable {n : Nat} {arcs : List S58} {L : List Int} (h : Hk n arcs L)
include h
theorem Hk.inv : HInv n (hierS n arcs L) := (upto_inv h.ord (NGood.start h.chk) n (Nat.le_refl _)).1
theorem Hk.edges : (hierS n arcs L).edges = (rkE n arcs L).map (toArc L) := (upto_inv h.ord (NGood.start h.chk) n (Nat.le_refl _)).2
theorem Hk.same : Print.redges n arcs L = (hierS n arcs L).edges := by
 rw [h.edges]
 unfold Print.redges
 rw [h.ord.len]
 exact ref_edges h.ord (NGood.start h.chk) n (Nat.le_refl _)
omit h in
theorem rkE_lex : (rkE n arcs L).Pairwise LexLt := rankEdges_lex (fun k => inc_setOf _) n
theorem Hk.rng {a b : Int} (hm : (a, b) ∈ rkE n arcs L) : ∃ x y : Nat, a = (x : Int) ∧ b = (y : Int) ∧ x < y ∧ y < n := by
 obtain ⟨k, h1, h2, h3⟩ := (mem_rankEdges n).1 hm
 have h4 := pl_rng (hk0_len h.ord (NGood.start h.chk)) (hk0_up h.ord (NGood.start h.chk)) h1 b h3
 obtain ⟨y, rfl⟩ := Int.eq_ofNat_of_zero_le (show 0 ≤ b by omega)
 exact ⟨k, y, h2, rfl, by omega, by omega⟩
theorem Hk.edge {e : S58} (he : e ∈ (hierS n arcs L).edges) : ∃ x y : Nat, x < y ∧ y < n ∧ e.f0 = L.getD x 0 ∧ e.f1 = L.getD y 0 ∧ ((x : Int), (y : Int)) ∈ rkE n arcs L := by
 rw [h.edges, List.mem_map] at he
 obtain ⟨⟨a, b⟩, hm, rfl⟩ := he
 obtain ⟨x, y, rfl, rfl, h1, h2⟩ := h.rng hm
 exact ⟨x, y, h1, h2, rfl, rfl, hm⟩
end
attribute [local go_sem] max2_int min2_int max_two min_two max_three min_three max_four min_four   -- for this text's walks alone
set_option linter.unusedVariables false
set_option linter.unusedSimpArgs false
/-! ### mapmakerref05_Equal: function 40 -/
def mapmakerref05_Equal.l0 : Nat → List Int → List Int → Int → Option (Bool)
 | 0, _, _, _ => none
 | k + 1, x0, x1, x5 => if x5 < (x0.length : Int) then (if 0 ≤ x5 then (if x5 < (x1.length : Int) then (if (rd x0 x5) = (rd x1 x5) then (mapmakerref05_Equal.l0 k x0 x1 (wrap64 (x5 + 1))) else (some false)) else (none)) else (none)) else (some true)
def mapmakerref05_Equal.f (k : Nat) (l0 : List Int) (l1 : List Int) : Option (Bool) := if (l0.length : Int) = (l1.length : Int) then (mapmakerref05_Equal.l0 k l0 l1 0) else (some false)
set_option maxHeartbeats 8000000 in
set_option maxRecDepth 100000 in
theorem mapmakerref05_Equal.calls (k : Nat) (A0 : Option Addr) (c0 : Nat) (l0 : List Int) (A1 : Option Addr) (c1 : Nat) (l1 : List Int) (r : Bool) (w : World) (hr0 : Kd.C (Kd.int .i64) w A0 l0.length l0) (hc0 : l0.length ≤ c0) (hr1 : Kd.C (Kd.int .i64) w A1 l1.length l1) (hc1 : l1.length ≤ c1) (h : mapmakerref05_Equal.f k l0 l1 = some r) :
  Calls Try.prog 40 #[.slice A0 l0.length c0, .slice A1 l1.length c1] w fun e w' => e = .returned (.bool r) ∧ Drawn0 w w' := by
 have HR0 := Aside0.mk hr0; have HC0 := Aside0.mk hc0; clear hr0 hc0; have HR1 := Aside0.mk hr1; have HC1 := Aside0.mk hc1; clear hr1 hc1
 have H : (if (l0.length : Int) = (l1.length : Int) then (mapmakerref05_Equal.l0 k l0 l1 0) else (some false)) = some r := h
 clear h
 by_cases c3 : (l0.length : Int) = (l1.length : Int)
 ·rw [if_pos c3] at H
  have c3b0 : ((l0.length : Int) == (l1.length : Int)) = true := beq_iff_eq.mpr c3
  have c3b1 : ((l0.length : Int) != (l1.length : Int)) = false := bne_eq_false_iff_eq.mpr c3
  have c3b2 : (l0.length == l1.length) = true := by first | simpa using c3 | (simp at c3 ⊢; omega)
  clear c3
  have H' := Aside0.mk H
  clear H
  go_enter Try.func40, Try.ntmps40
  go_wp2
  repeat (go_quiet (fail); try go_wp2)
  go_loopg [5] k (fun kq v5 w' => ∃ (x5_1 : Int), v5 = .int .i64 x5_1 ∧ Aside0 (mapmakerref05_Equal.l0 kq l0 l1 x5_1 = some r) ∧ Aside0 (kq ≤ k) ∧ Drawn0 w w')
  case atStart => exact ⟨(0), byF, H', ⟨Nat.le_refl _⟩, by repeat (first | exact Drawn0.refl _ | apply Drawn0.step)⟩
  case round =>
   clear H'
   try clear c1
   try clear p2
   try clear c3
   try clear c3b0
   try clear c3b1
   try clear c3b2
   obtain ⟨x5_1, rfl, HA, HK1, ⟨m1, rfl⟩⟩ := hrel
   cases gk with
   | zero => exact absurd HA.out (by simp [mapmakerref05_Equal.l0])
   | succ k1 =>
    have H := HA.out; clear HA
    simp only [mapmakerref05_Equal.l0] at H
    by_cases c4 : x5_1 < (l0.length : Int)
    ·rw [if_pos c4] at H
     have c4b0 : decide (x5_1 < (l0.length : Int)) = true := decide_eq_true c4
     clear c4
     by_cases c5 : 0 ≤ x5_1
     ·rw [if_pos c5] at H
      have c5b0 : decide (0 ≤ x5_1) = true := decide_eq_true c5
      clear c5
      by_cases c6 : x5_1 < (l1.length : Int)
      ·rw [if_pos c6] at H
       have c6b0 : decide (x5_1 < (l1.length : Int)) = true := decide_eq_true c6
       clear c6
       by_cases c7 : (rd l0 x5_1) = (rd l1 x5_1)
       ·rw [if_pos c7] at H
        have c7b0 : ((rd l0 x5_1) == (rd l1 x5_1)) = true := beq_iff_eq.mpr c7
        have c7b1 : ((rd l0 x5_1) != (rd l1 x5_1)) = false := bne_eq_false_iff_eq.mpr c7
        clear c7
        have H' := Aside0.mk H
        clear H
        have p176 : 0 ≤ (x5_1 : Int) := odt
        have q176 : x5_1 < (l0.length : Int) := odt
        obtain ⟨ad176, e176, hx176_0⟩ := Kd.at_int HR0.out x5_1 p176 q176
        cases e176
        replace p176 := eq_true p176; replace q176 := eq_true q176
        have p177 : 0 ≤ (x5_1 : Int) := odt
        have q177 : x5_1 < (l1.length : Int) := odt
        obtain ⟨ad177, e177, hx177_0⟩ := Kd.at_int HR1.out x5_1 p177 q177
        cases e177
        replace p177 := eq_true p177; replace q177 := eq_true q177
        go_wp2
        repeat (go_quiet (fail); try go_wp2)
        go_roundg k1
        case measure => have := HK1.out; omega
        case rel => exact ⟨(wrap64 (x5_1 + 1)), byF, H', ⟨by have := HK1.out; omega⟩, by repeat (first | exact Drawn0.refl _ | apply Drawn0.step)⟩
       ·rw [if_neg c7] at H
        have c7b0 : ((rd l0 x5_1) == (rd l1 x5_1)) = false := beq_eq_false_iff_ne.mpr c7
        have c7b1 : ((rd l0 x5_1) != (rd l1 x5_1)) = true := bne_iff_ne.mpr c7
        obtain rfl := Option.some.inj H
        have p176 : 0 ≤ (x5_1 : Int) := odt
        have q176 : x5_1 < (l0.length : Int) := odt
        obtain ⟨ad176, e176, hx176_0⟩ := Kd.at_int HR0.out x5_1 p176 q176
        cases e176
        replace p176 := eq_true p176; replace q176 := eq_true q176
        have p177 : 0 ≤ (x5_1 : Int) := odt
        have q177 : x5_1 < (l1.length : Int) := odt
        obtain ⟨ad177, e177, hx177_0⟩ := Kd.at_int HR1.out x5_1 p177 q177
        cases e177
        replace p177 := eq_true p177; replace q177 := eq_true q177
        go_wp2
        repeat (go_quiet (fail); try go_wp2)
        go_ret
        exact ⟨by first | rfl | (simp; done) | (simp [*]; done), by repeat (first | exact Drawn0.refl _ | apply Drawn0.step)⟩
      ·rw [if_neg c6] at H
       exact absurd H (by simp)
     ·rw [if_neg c5] at H
      exact absurd H (by simp)
    ·rw [if_neg c4] at H
     have c4b0 : decide (x5_1 < (l0.length : Int)) = false := decide_eq_false c4
     clear c4
     obtain rfl := Option.some.inj H
     go_wp2
     repeat (go_quiet (fail); try go_wp2)
     go_ret
     exact ⟨by first | rfl | (simp; done) | (simp [*]; done), by repeat (first | exact Drawn0.refl _ | apply Drawn0.step)⟩
 ·rw [if_neg c3] at H
  have c3b0 : ((l0.length : Int) == (l1.length : Int)) = false := beq_eq_false_iff_ne.mpr c3
  have c3b1 : ((l0.length : Int) != (l1.length : Int)) = true := bne_iff_ne.mpr c3
  have c3b2 : (l0.length == l1.length) = false := by first | simpa using c3 | (simp at c3 ⊢; omega)
  obtain rfl := Option.some.inj H
  go_enter Try.func40, Try.ntmps40
  go_wp2
  repeat (go_quiet (fail); try go_wp2)
  go_ret
  exact ⟨by first | rfl | (simp; done) | (simp [*]; done), by repeat (first | exact Drawn0.refl _ | apply Drawn0.step)⟩
end Go.Proofs.Ytfnophaiamkmpaa.Print
