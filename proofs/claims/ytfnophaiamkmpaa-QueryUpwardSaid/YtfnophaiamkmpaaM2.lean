/- Several texts of this claim in one: HSets, HKPure, HXOpen. -/
import Derived.Test.YtfnophaiamkmpaaPrint0
import Derived.Test.YtfnophaiamkmpaaShelf
import Derived.Test.YtfnophaiamkmpaaM1
import Derived.Lib.OwnBridge
import Derived.Sort.OwnSortedInts
import Derived.Test.YtfnophaiamkmpaaV0
import Derived.SizedLaws
import Derived.ChangeArms
import Derived.ChangeSame
import Derived.DataReads
namespace Go.Proofs.Ytfnophaiamkmpaa.Print
open Go.RowKit Go.Proofs.YtfnophaiamkmpaaW.PrintWords Go.Proofs.YtfnophaiamkmpaaW.PrintLast Go.Proofs.YtfnophaiamkmpaaW.PrintMore
set_option linter.unusedVariables false
set_option linter.unusedSimpArgs false
theorem spot_of_cell {w : World} {ad : Addr} {v : Value} (h : w.cell? (ad.add 0) = some v) : ad = ⟨ad.block, ad.off, none⟩ := by
 have h0 : ad.add 0 = ad := by simp [Addr.add]
 rw [h0] at h
 unfold World.cell? at h
 cases hs : ad.spot with
 | none => cases ad; simp_all
 | some s =>
  rw [hs] at h
  split at h <;> simp at h
theorem cells_of_C {w : World} {A : Option Addr} {n : Nat} {l : List Int} (h : Kd.C (Kd.int .i64) w A n l) :
  (n = 0 ∧ l = []) ∨ (0 < n ∧ ∃ b off, A = some ⟨b, off, none⟩ ∧ ∀ j, j < l.length → w.cell? ⟨b, off + j, none⟩ = some (.int .i64 (l.getD j 0))) := by
 obtain ⟨hl, hm, hc⟩ := h
 rcases Nat.eq_zero_or_pos n with h0 | h0
 ·left
  exact ⟨h0, List.eq_nil_of_length_eq_zero (hl.trans h0)⟩
 ·right
  obtain ⟨ad, hA, hc2⟩ := hc h0
  subst hA
  have hcell : ∀ j, j < l.length → w.cell? (ad.add j) = some (.int .i64 (l.getD j 0)) := by
   intro j hj
   obtain ⟨c, hs, hr, hcc⟩ := hc2 j _ (List.getElem?_eq_getElem hj)
   have hr' : c = [.int .i64 (l[j])] := hr
   subst hr'
   have := hcc 0 _ rfl
   rw [show (Kd.int .i64).sz = 1 from rfl, Nat.mul_one, Nat.add_zero] at this
   rw [this]
   simp [List.getElem?_eq_getElem hj]
  have h1 := hcell 0 (by omega)
  have hs := spot_of_cell h1
  refine ⟨h0, ad.block, ad.off, congrArg some hs, fun j hj => ?_⟩
  have h2 := hcell j hj
  have : ad.add j = ⟨ad.block, ad.off + j, none⟩ := by
   unfold Addr.add
   split
   ·rename_i hz
    subst hz
    exact hs
   ·rfl
  rw [← this]
  exact h2
theorem clone_C (A : Option Addr) (n c : Nat) (l : List Int) (w : World) (hr : Kd.C (Kd.int .i64) w A n l) (hb : n * 8 ≤ 140737488355328) :
  Calls Try.prog 57 #[.slice A n c] w fun e w' => ∃ v' : Value, e = .returned v' ∧ w'.ownsRow w.heap.size 3 1 v' n (nums .i64 l) ∧ Below w.heap.size w w' := by
 rcases cells_of_C hr with ⟨rfl, rfl⟩ | ⟨h0, b, off, rfl, hc⟩
 ·cases A with
  | none =>
   refine (Try.slices_Clone_int_nil 0 c w).mono ?_
   rintro e w' ⟨rfl, rfl⟩
   exact ⟨_, rfl, own_nil _ _ _ _, Below.refl _ _⟩
  | some a =>
   refine (Try.slices_Clone_int_zero a c w).mono ?_
   rintro e w' ⟨v', rfl, ho, _, hB⟩
   exact ⟨_, rfl, by simpa [nums] using ho, hB⟩
 ·have hl : l.length = n := hr.1
  refine (Try.slices_Clone_int b off n c l w (by omega) hb hc).mono ?_
  rintro e w' ⟨v', rfl, ho, _, hB⟩
  rw [← hl, List.take_length, hl] at ho
  exact ⟨_, rfl, ho, hB⟩
theorem sort_own (base : Nat) (v : Value) (l : List Int) (w : World) (ho : w.ownsRow base 3 1 v l.length (nums .i64 l)) (hl : l.length < 4611686018427387904) :
  Calls Try.prog 96 #[v] w fun e w' => e = .returned (.tuple #[]) ∧ w'.ownsRow base 3 1 v l.length (nums .i64 (l.mergeSort fun x y => decide (x ≤ y))) ∧ w.grownBy w' v.ownBlock := by
 by_cases hv : v = .slice none 0 0
 ·subst hv
  have h0 : l = [] := by
   rcases ho.2 with ⟨_, h⟩ | ⟨g, cap, cur, h, _⟩
   ·exact List.eq_nil_of_length_eq_zero h
   ·cases h
  subst h0
  refine (Try.slices_Sort_int_none none 0 w).mono ?_
  rintro e w' ⟨rfl, rfl⟩
  exact ⟨rfl, by simpa using ho, World.grownBy.refl _ _⟩
 ·obtain ⟨g, cap, rfl, hbg, hgl, hncap, hcm, hlen, hH⟩ := Lib.holds_of_ownsRow (zs := l) ho hv
  refine (Try.slices_Sort_int g 0 cap l w hH hgl hl).mono ?_
  rintro e w' ⟨rfl, n, os, rfl⟩
  rcases ho.2 with ⟨h0, _⟩ | ⟨g', cap', cur, hv', hbase, hb, h1, h2, h3, h4⟩
  ·cases h0
  cases hv'
  exact ⟨rfl, ownsRow_sortedI (n := n) (os := os) (ts := l.mergeSort fun x y => decide (x ≤ y)) (List.length_mergeSort l) hbase hb h1 h2 h3, grownBy_sortedI _⟩
theorem compact_own (base : Nat) (v : Value) (l : List Int) (w : World) (ho : w.ownsRow base 3 1 v l.length (nums .i64 l)) :
  Calls Try.prog 97 #[v] w fun e w' => ∃ v' : Value, e = .returned v' ∧ w'.ownsRow base 3 1 v' (Lib.compact l).length (nums .i64 (Lib.compact l)) ∧ w.grownBy w' v.ownBlock ∧ v'.ownBlock = v.ownBlock := by
 by_cases hv : v = .slice none 0 0
 ·subst hv
  have h0 : l = [] := by
   rcases ho.2 with ⟨_, h⟩ | ⟨g, cap, cur, h, _⟩
   ·exact List.eq_nil_of_length_eq_zero h
   ·cases h
  subst h0
  refine (Try.slices_Compact_int_empty none 0 w).mono ?_
  rintro e w' ⟨rfl, rfl⟩
  exact ⟨_, rfl, own_nil _ _ _ _, World.grownBy.refl _ _, rfl⟩
 ·obtain ⟨g, cap, rfl, hbg, hgl, hncap, hcm, hlen, hH⟩ := Lib.holds_of_ownsRow (zs := l) ho hv
  simp only [maxLen] at hcm
  refine (Try.slices_Compact_int g 0 cap l w hH (by omega) hncap).mono ?_
  rintro e w' ⟨rfl, q, rfl⟩
  have hle := Lib.compact_length_le l
  have hc := Lib.ownsRow_putRow (q := q) (k := (Lib.compact l).length) (ys := Lib.compact l ++ List.replicate (l.length - (Lib.compact l).length) 0) (zs := l) ho (by simp; omega) (by omega)
  rw [List.take_left] at hc
  refine ⟨_, rfl, hc, ?_, rfl⟩
  have := grownBy_sortedI (w := w) (g := g) (n := q) (os := #[]) (Lib.compact l ++ List.replicate (l.length - (Lib.compact l).length) 0).toArray
  rw [Sort.grow_empty] at this
  exact this
def sets_Of.f (l0 : List Int) : Option (List Int) := if l0.length < 17592186044416 then some (setOf l0) else none
theorem R_of_owns {w : World} {base : Nat} {v : Value} {l : List Int} (h : w.ownsRow base 3 1 v l.length (nums .i64 l)) : Kd.R (Kd.int .i64) 3 w base (fun _ => True) v l :=
 ⟨fun _ _ => trivial, nums .i64 l, h, by show (nums .i64 l).length = l.length * 1; simp [nums], fun j p hj => by
  have hjl := (List.getElem?_eq_some_iff.1 hj).1
  have hp : p = l[j] := (List.getElem?_eq_some_iff.1 hj).2.symm
  subst hp
  show (List.take 1 (List.drop (j * 1) (nums .i64 l))) = [Value.int .i64 l[j]]
  rw [Nat.mul_one, nums, ← List.map_drop, List.drop_eq_getElem_cons hjl]
  rfl⟩
set_option maxHeartbeats 800000 in
theorem sets_Of.calls (A0 : Option Addr) (c0 : Nat) (l0 : List Int) (r : List Int) (w : World) (hr0 : Kd.C (Kd.int .i64) w A0 l0.length l0) (hc0 : l0.length ≤ c0) (h : sets_Of.f l0 = some r) :
  Calls Try.prog 85 #[.slice A0 l0.length c0] w fun e w' => ∃ v0_ : Value, e = .returned (v0_) ∧ Kd.R (Kd.int .i64) 3 w' w.heap.size (fun _ => True) v0_ r ∧ Below w.heap.size w w' := by
 unfold sets_Of.f at h
 by_cases hl : l0.length < 17592186044416
 ·rw [if_pos hl] at h
  obtain rfl := Option.some.inj h
  clear h
  have h1 := Aside0.mk (clone_C A0 l0.length c0 l0 w hr0 (by omega))
  clear hr0 hc0
  go_enter Try.func85, Try.ntmps85
  go_wp2_with fail
  refine h1.out.mono ?_
  rintro e w1 ⟨v1, rfl, ho1, hB1⟩
  have h2 := Aside0.mk (sort_own _ v1 l0 w1 ho1 (by omega))
  have H1 := Aside0.mk hB1
  have O1 := Aside0.mk ho1
  clear ho1 hB1
  go_wp2_with fail
  refine h2.out.mono ?_
  rintro e w2 ⟨rfl, ho2, hg2⟩
  have hlm : (l0.mergeSort fun x y => decide (x ≤ y)).length = l0.length := List.length_mergeSort l0
  have h3 := Aside0.mk (compact_own _ v1 (l0.mergeSort fun x y => decide (x ≤ y)) w2 (by rw [hlm]; exact ho2))
  have H2 := Aside0.mk hg2
  clear ho2 hg2 hlm
  go_wp2_with fail
  refine h3.out.mono ?_
  rintro e w3 ⟨v3, rfl, ho3, hg3, _⟩
  have O3 := Aside0.mk ho3
  have H3 := Aside0.mk hg3
  clear ho3 hg3
  go_wp2_with fail
  go_ret
  have hb : ∀ k, v1.ownBlock = some k → w.heap.size ≤ k := own_base O1.out
  exact ⟨_, rfl, by rw [← compact_sort]; exact R_of_owns O3.out, (H1.out.grown H2.out H1.out.size hb).grown H3.out (Nat.le_trans H1.out.size H2.out.size) hb⟩
 ·rw [if_neg hl] at h
  cases h
def hpush (H : List (List Int)) (i : Nat) (x : Int) : List (List Int) := H.set i (H.getD i [] ++ [x])
def h1step (R : List Int) (v : Nat) (H : List (List Int)) (u : Int) : List (List Int) := if R.getD u.toNat 0 > R.getD v 0 then hpush H (R.getD v 0).toNat (R.getD u.toNat 0) else H
def h1row (R : List Int) (v : Nat) (H : List (List Int)) (l : List Int) : List (List Int) := l.foldl (h1step R v) H
def h1upto (R : List Int) (near : List (List Int)) (n : Nat) : Nat → List (List Int)
 | 0 => List.replicate n []
 | v + 1 => h1row R v (h1upto R near n v) (near.getD v [])
def h2step (L : List Int) (r : Nat) (l : List Int) (i : Nat) (st : List (List Int) × HSt) : List (List Int) × HSt :=
 (if 0 < i then hpush st.1 (l.getD 0 0).toNat (l.getD i 0) else st.1, hadd st.2 (L.getD r 0).toNat (L.getD (l.getD i 0).toNat 0).toNat)
def h2row (L : List Int) (r : Nat) (l : List Int) (st : List (List Int) × HSt) : Nat → List (List Int) × HSt
 | 0 => st
 | i + 1 => h2step L r l i (h2row L r l st i)
def h2upto (L : List Int) (st : List (List Int) × HSt) : Nat → List (List Int) × HSt
 | 0 => st
 | r + 1 => h2row L r (setOf ((h2upto L st r).1.getD r [])) (h2upto L st r) (setOf ((h2upto L st r).1.getD r [])).length
def elimS (n : Nat) (L R : List Int) (near : List (List Int)) (S : HSt) : HSt := (h2upto L (h1upto R near n n, S) n).2
structure HGood (n c : Nat) (H : List (List Int)) : Prop where
 len : H.length = n
 rng : ∀ r x, x ∈ H.getD r [] → 0 ≤ x ∧ x < (n : Int)
 cap : ∀ r, (H.getD r []).length ≤ c
theorem getD_set_list {H : List (List Int)} {i r : Nat} {x : List Int} : (H.set i x).getD r [] = if i = r ∧ i < H.length then x else H.getD r [] := by
 rw [List.getD_eq_getElem?_getD, List.getElem?_set]
 by_cases h : i = r
 ·subst h
  by_cases h2 : i < H.length
  ·simp [h2]
  ·simp [h2]
 ·simp [h]
theorem getD_hpush {H : List (List Int)} {i r : Nat} {x : Int} (hi : i < H.length) : (hpush H i x).getD r [] = if i = r then H.getD i [] ++ [x] else H.getD r [] := by
 unfold hpush
 rw [getD_set_list]
 simp [hi]
theorem HGood.push {n c : Nat} {H : List (List Int)} (h : HGood n c H) {i : Nat} (hi : i < n) {x : Int} (hx : 0 ≤ x ∧ x < (n : Int)) : HGood n (c + 1) (hpush H i x) := by
 have hil : i < H.length := by rw [h.len]; exact hi
 refine ⟨by unfold hpush; rw [List.length_set]; exact h.len, fun r y hy => ?_, fun r => ?_⟩
 ·rw [getD_hpush hil] at hy
  by_cases e : i = r
  ·rw [if_pos e, List.mem_append, List.mem_singleton] at hy
   rcases hy with hy | rfl
   ·exact h.rng i y hy
   ·exact hx
  ·rw [if_neg e] at hy
   exact h.rng r y hy
 ·rw [getD_hpush hil]
  by_cases e : i = r
  ·rw [if_pos e, List.length_append]
   have := h.cap i
   rw [List.length_singleton]
   omega
  ·rw [if_neg e]
   have := h.cap r
   omega
theorem HGood.le {n c c' : Nat} {H : List (List Int)} (h : HGood n c H) (hc : c ≤ c') : HGood n c' H := ⟨h.len, h.rng, fun r => Nat.le_trans (h.cap r) hc⟩
theorem HGood.nils (n : Nat) : HGood n 0 (List.replicate n []) := by
 refine ⟨by simp, fun r x hx => ?_, fun r => ?_⟩
 ·by_cases h : r < n
  ·simp [h] at hx
  ·simp [h] at hx
 ·by_cases h : r < n
  ·simp [h]
  ·simp [h]
structure SGood (n c : Nat) (S : HSt) : Prop where
 lenu : S.ups.length = n
 lend : S.downs.length = n
 len : S.edges.length ≤ c
 capu : ∀ r, (S.ups.getD r []).length ≤ c
 capd : ∀ r, (S.downs.getD r []).length ≤ c
theorem SGood.add {n c : Nat} {S : HSt} (h : SGood n c S) {u v : Nat} : SGood n (c + 1) (hadd S u v) := by
 refine ⟨by simp [hadd, h.lenu], by simp [hadd, h.lend], ?_, fun r => ?_, fun r => ?_⟩
 ·show (S.edges ++ [_]).length ≤ c + 1
  have := h.len
  simp
  omega
 ·show ((S.ups.set u _).getD r []).length ≤ c + 1
  rw [getD_set_list]
  have h1 := h.capu u
  have h2 := h.capu r
  split
  ·rw [List.length_append, List.length_singleton]
   omega
  ·omega
 ·show ((S.downs.set v _).getD r []).length ≤ c + 1
  rw [getD_set_list]
  have h1 := h.capd v
  have h2 := h.capd r
  split
  ·rw [List.length_append, List.length_singleton]
   omega
  ·omega
theorem SGood.le {n c c' : Nat} {S : HSt} (h : SGood n c S) (hc : c ≤ c') : SGood n c' S := ⟨h.lenu, h.lend, Nat.le_trans h.len hc, fun r => Nat.le_trans (h.capu r) hc, fun r => Nat.le_trans (h.capd r) hc⟩
theorem foldl_take_succ {α : Type} (f : α → Int → α) (a : α) {l : List Int} {k : Nat} (hk : k < l.length) : (l.take (k + 1)).foldl f a = f ((l.take k).foldl f a) (l.getD k 0) := by
 have h1 : l.take (k + 1) = l.take k ++ [l.getD k 0] := by
  rw [List.take_add_one]
  simp [hk]
 rw [h1, List.foldl_append]
 rfl
theorem inc_len : ∀ {l : List Int} {lo hi : Int}, Inc l → (∀ x ∈ l, lo ≤ x ∧ x < hi) → l.length ≤ (hi - lo).toNat
 | [], _, _, _, _ => by simp
 | x :: t, lo, hi, h, hr => by
  have h1 := hr x (by simp)
  have h2 : ∀ y ∈ t, x + 1 ≤ y ∧ y < hi := fun y hy => by
   have h3 := (List.pairwise_cons.1 h).1 y hy
   exact ⟨by omega, (hr y (by simp [hy])).2⟩
  have h3 := inc_len (List.pairwise_cons.1 h).2 h2
  rw [List.length_cons]
  omega
theorem inc_len_n {l : List Int} {n : Nat} (h : Inc l) (hr : ∀ x ∈ l, 0 ≤ x ∧ x < (n : Int)) : l.length ≤ n := by
 have := inc_len h hr
 omega
theorem h1step_good {n c : Nat} {R : List Int} {H : List (List Int)} (h : HGood n c H) (hR : ∀ v, v < n → 0 ≤ R.getD v 0 ∧ R.getD v 0 < (n : Int)) {v : Nat} (hv : v < n) {u : Int} (hu : 0 ≤ u ∧ u < (n : Int)) : HGood n (c + 1) (h1step R v H u) := by
 unfold h1step
 split
 ·exact h.push (by have := hR v hv; omega) (hR u.toNat (by omega))
 ·exact h.le (by omega)
structure RIs (w : World) (base : Nat) (o : Tags) (gv ov rv : Value) (arcs : List S58) (L R : List Int) : Prop where
 arc : Kd.R k58 58 w base (fun k => o k = (9, 0)) gv arcs
 ord : Kd.R (Kd.int .i64) 3 w base (fun k => o k = (7, 0)) ov L
 rnk : Kd.R (Kd.int .i64) 3 w base (fun k => o k = (8, 0)) rv R
structure EIs (w : World) (base p Bh : Nat) (o : Tags) (n : Nat) (gv ov rv ev : Value) (mb Bu cu Bd cd : Nat) (vu vd vh : Nat → Value) (arcs : List S58) (L R : List Int) (H : List (List Int)) (S : HSt) : Prop where
 hier : HierIs w base p o n gv ov rv ev mb Bu cu Bd cd vu vd S
 high : RowsIs w base Bh 1 o vh H
 red : RIs w base o gv ov rv arcs L R
section
variable {w w1 : World} {base p Bh : Nat} {o o' : Tags} {n : Nat} {gv ov rv ev : Value} {mb Bu cu Bd cd : Nat} {vu vd vh : Nat → Value} {arcs : List S58} {L R : List Int} {H : List (List Int)} {S : HSt}
theorem RIs.move (h : RIs w base o gv ov rv arcs L R) (hm : ∀ k, k < w.heap.size → 7 ≤ (o k).1 → (o k).1 ≤ 9 → w1.heap[k]? = w.heap[k]?) : RIs w1 base o gv ov rv arcs L R :=
 ⟨Kd.R_step h.arc (fun k hk hlt => hm k hlt (by rw [hk]; decide) (by rw [hk]; decide)), Kd.R_step h.ord (fun k hk hlt => hm k hlt (by rw [hk]; decide) (by rw [hk]; decide)), Kd.R_step h.rnk (fun k hk hlt => hm k hlt (by rw [hk]; decide) (by rw [hk]; decide))⟩
theorem RIs.retag (h : RIs w base o gv ov rv arcs L R) (ho : ∀ k, k < w.heap.size → o' k = o k) : RIs w base o' gv ov rv arcs L R :=
 ⟨Kd.R_reok rfl h.arc (fun k hk => by have h1 := h.arc.1 k hk; show o' k = _; rw [ho k (Kd.R_lt h.arc k hk)]; exact h1), Kd.R_reok rfl h.ord (fun k hk => by have h1 := h.ord.1 k hk; show o' k = _; rw [ho k (Kd.R_lt h.ord k hk)]; exact h1),
  Kd.R_reok rfl h.rnk (fun k hk => by have h1 := h.rnk.1 k hk; show o' k = _; rw [ho k (Kd.R_lt h.rnk k hk)]; exact h1)⟩
theorem HierIs.retag (h : HierIs w base p o n gv ov rv ev mb Bu cu Bd cd vu vd S) (ho : ∀ k, k < w.heap.size → o' k = o k) : HierIs w base p o' n gv ov rv ev mb Bu cu Bd cd vu vd S := by
 obtain ⟨a1, a2, a3, a4, a5, a6, a7⟩ := h.re (w2 := w) (C := fun k => False) ho (Nat.le_refl _) (fun k hk hc => rfl)
 exact ⟨a1 (fun x => x), a2, a3 (fun _ _ x => x), a4 (fun x => x), a5, a6 (fun _ _ x => x), a7 (fun _ _ x => x), h.lenu, h.lend, h.plo, h.mlo⟩
theorem EIs.move (h : EIs w base p Bh o n gv ov rv ev mb Bu cu Bd cd vu vd vh arcs L R H S) (hs : w.heap.size ≤ w1.heap.size) (hm : ∀ k, k < w.heap.size → 1 ≤ (o k).1 → (o k).1 ≤ 9 → w1.heap[k]? = w.heap[k]?) : EIs w1 base p Bh o n gv ov rv ev mb Bu cu Bd cd vu vd vh arcs L R H S :=
 ⟨h.hier.keep hs (fun k hk h1 h2 => hm k hk (by omega) (by omega)), rows_move h.high hs (fun k hk ht => hm k hk (by omega) (by omega)), h.red.move (fun k hk h1 h2 => hm k hk (by omega) h2)⟩
theorem EIs.below (h : EIs w base p Bh o n gv ov rv ev mb Bu cu Bd cd vu vd vh arcs L R H S) (hb : Below w.heap.size w w1) : EIs w1 base p Bh o n gv ov rv ev mb Bu cu Bd cd vu vd vh arcs L R H S := h.move hb.size (fun k hk _ _ => hb.block k hk)
theorem EIs.drew (h : EIs w base p Bh o n gv ov rv ev mb Bu cu Bd cd vu vd vh arcs L R H S) : EIs w.drew base p Bh o n gv ov rv ev mb Bu cu Bd cd vu vd vh arcs L R H S := h.move (Nat.le_refl _) (fun _ _ _ _ => rfl)
theorem EIs.retag (h : EIs w base p Bh o n gv ov rv ev mb Bu cu Bd cd vu vd vh arcs L R H S) (ho : ∀ k, k < w.heap.size → o' k = o k) : EIs w base p Bh o' n gv ov rv ev mb Bu cu Bd cd vu vd vh arcs L R H S := ⟨h.hier.retag ho, h.high.retag ho, h.red.retag ho⟩
theorem EIs.put (h : EIs w base p Bh o n gv ov rv ev mb Bu cu Bd cd vu vd vh arcs L R H S) {i : Nat} (hi : i < H.length) {v1 : Value} {r1 : List Int} (hr : Kd.R (Kd.int .i64) 3 w1 base (fun _ => True) v1 r1) (hg : w.grownBy w1 (vh i).ownBlock)
  (hat : v1.ownBlock = (vh i).ownBlock ∨ ∃ b, v1.ownBlock = some b ∧ w.heap.size ≤ b) :
  ∃ o' vh', (∀ k, k < w.heap.size → o' k = o k) ∧ (∀ k, k < w.heap.size → (o k).1 ≠ 1 → (w1.setCell ⟨Bh, i, none⟩ v1).heap[k]? = w.heap[k]?) ∧ w.heap.size ≤ (w1.setCell ⟨Bh, i, none⟩ v1).heap.size ∧ EIs (w1.setCell ⟨Bh, i, none⟩ v1) base p Bh o' n gv ov rv ev mb Bu cu Bd cd vu vd vh' arcs L R (H.set i r1) S := by
 obtain ⟨o', ho1, ho2, h3⟩ := h.high.put hi hr hg hat
 have hm : ∀ k, k < w.heap.size → (o k).1 ≠ 1 → (w1.setCell ⟨Bh, i, none⟩ v1).heap[k]? = w.heap[k]? := fun k hk ht => by
  rw [Below.heap_setCell _ _ _ _ (fun e => ht (by rw [show k = Bh from e, h.high.own]))]
  exact hg.block k hk (fun e => ht (by rw [(h.high.row i hi).1 k e.symm]))
 have hs : w.heap.size ≤ (w1.setCell ⟨Bh, i, none⟩ v1).heap.size := by simp [World.setCell]; exact hg.size
 refine ⟨o', _, ho1, hm, hs, ?_, h3, ?_⟩
 ·have h4 := h.hier.keep (w1 := w1.setCell ⟨Bh, i, none⟩ v1) hs (fun k hk h1 h2 => hm k hk (by omega))
  obtain ⟨a1, a2, a3, a4, a5, a6, a7⟩ := h.hier.re (o' := o') (w2 := w1.setCell ⟨Bh, i, none⟩ v1) (C := fun k => (o k).1 = 1) ho1 hs (fun k hk hc => hm k hk hc)
  exact ⟨a1 (by rw [h.hier.ptag]; decide), a2, a3 (fun k hk => by rw [hk]; decide), a4 (by rw [h.hier.mtag]; decide), a5, a6 (fun k hk => by rw [hk]; decide), a7 (fun k hk => by rw [hk]; decide), h.hier.lenu, h.hier.lend, h.hier.plo, h.hier.mlo⟩
 ·have h4 : RIs (w1.setCell ⟨Bh, i, none⟩ v1) base o gv ov rv arcs L R := h.red.move (fun k hk h1 h2 => hm k hk (by omega))
  refine ⟨Kd.R_reok rfl h4.arc (fun k hk => ?_), Kd.R_reok rfl h4.ord (fun k hk => ?_), Kd.R_reok rfl h4.rnk (fun k hk => ?_)⟩
  ·show o' k = _
   rw [ho1 k (Kd.R_lt h.red.arc k hk)]
   exact h.red.arc.1 k hk
  ·show o' k = _
   rw [ho1 k (Kd.R_lt h.red.ord k hk)]
   exact h.red.ord.1 k hk
  ·show o' k = _
   rw [ho1 k (Kd.R_lt h.red.rnk k hk)]
   exact h.red.rnk.1 k hk
theorem EIs.added {ev' : Value} {vu' vd' : Nat → Value} {S' : HSt} (h : EIs w base p Bh o n gv ov rv ev mb Bu cu Bd cd vu vd vh arcs L R H S) (hb : Bel (HT o) w w1) (ho : ∀ k, k < w.heap.size → o' k = o k) (hh : HierIs w1 base p o' n gv ov rv ev' mb Bu cu Bd cd vu' vd' S') :
  EIs w1 base p Bh o' n gv ov rv ev' mb Bu cu Bd cd vu' vd' vh arcs L R H S' := by
 refine ⟨hh, rows_move (h.high.retag ho) hb.size (fun k hk ht => hb.block k hk (fun hT => ?_)), ?_⟩
 ·unfold HT at hT
  rw [ho k hk] at ht
  omega
 ·have h4 : RIs w1 base o gv ov rv arcs L R := h.red.move (fun k hk h1 h2 => hb.block k hk (fun hT => by unfold HT at hT; omega))
  refine ⟨Kd.R_reok rfl h4.arc (fun k hk => ?_), Kd.R_reok rfl h4.ord (fun k hk => ?_), Kd.R_reok rfl h4.rnk (fun k hk => ?_)⟩
  ·show o' k = _
   rw [ho k (Kd.R_lt h.red.arc k hk)]
   exact h.red.arc.1 k hk
  ·show o' k = _
   rw [ho k (Kd.R_lt h.red.ord k hk)]
   exact h.red.ord.1 k hk
  ·show o' k = _
   rw [ho k (Kd.R_lt h.red.rnk k hk)]
   exact h.red.rnk.1 k hk
end
theorem own_cell {w : World} {base : Nat} {ok : Nat → Prop} {v : Value} {l : List Int} (h : Kd.R (Kd.int .i64) 3 w base ok v l) {i : Nat} (hi : i < l.length) : ∃ b off c, v = .slice (some ⟨b, off, none⟩) l.length c ∧ w.cell? ⟨b, off + i, none⟩ = some (.int .i64 (l.getD i 0)) := by
 obtain ⟨A, c, rfl, hc, hC⟩ := Kd.R_reads h
 rcases cells_of_C hC with ⟨h0, _⟩ | ⟨_, b, off, rfl, hce⟩
 ·omega
 ·exact ⟨b, off, c, rfl, hce i hi⟩
def nilRows (n : Nat) : Array Value := madeCells #[.slice none 0 0] n
theorem infoInts : (Try.prog.info? 25).map (fun i => (i.zero, i.size, i.bytes)) = some (some (.slice none 0 0), 1, 24) := by kernel_rfl
theorem run_nilRows (n : Nat) (hn : n ≤ 20000) (w : World) : (Instr.makeSlice 59 (.int .i64 (n : Int)) (.int .i64 (n : Int))).run Try.prog w = .ok (.slice (some ⟨w.heap.size, 0, none⟩) n n) (w.alloc (.cells (nilRows n) 25 (0, 0))) := by
 obtain ⟨i, h1, hh⟩ := Option.map_eq_some_iff.1 infoInts
 simp only [Prod.mk.injEq] at hh
 obtain ⟨h2, h3, h4⟩ := hh
 have := run_makeSlice (P := Try.prog) w 59 25 i (.slice none 0 0) Try.underlying59 h1 h2 .i64 .i64 n n (by omega) (by omega) (by rw [h3]; simp; omega) (by rw [h4]; omega) (by omega)
 rw [this, h3]
 simp [nilRows, Value.cells]
theorem nilRows_get {n j : Nat} (h : j < n) : (nilRows n)[j]? = some (.slice none 0 0) := by
 unfold nilRows madeCells
 simp [h, Nat.mod_one]
theorem RowsIs.made {w : World} {base t n B : Nat} {o : Tags} (hb : w.heap[B]? = some (.cells (nilRows n) 25 (0, 0))) (ho : o B = (t, 0)) (hlo : base ≤ B) : RowsIs w base B t o (fun _ => .slice none 0 0) (List.replicate n []) := by
 refine ⟨fun i hi => ?_, fun i hi => ?_, ho, hlo, hblk_lt hb, fun i => blk_frozen hb i⟩
 ·rw [List.length_replicate] at hi
  have h1 := (blk_cell hb i).trans (nilRows_get hi)
  exact h1
 ·rw [List.length_replicate] at hi
  have : (List.replicate n ([] : List Int)).getD i [] = [] := by simp [hi]
  rw [this]
  exact Kd.R_nil _ _ _ _ _
open Go.RowKit Go.Proofs.YtfnophaiamkmpaaW.PrintWords
def Wf (k : IntKind) (n : Int) : Prop := (Lit.int k n).wf = true
theorem Wf.i64 {n : Int} : Wf .i64 n ↔ -9223372036854775808 ≤ n ∧ n ≤ 9223372036854775807 := by
 unfold Wf
 simp [Lit.wf, IntKind.min, IntKind.max, IntKind.signed, IntKind.bits]
def Light {H : Type} (P : Program) (t : TypeId) (d : DataW H) : Prop := ∀ n ∈ d.weights P t, n ≤ 140737488351232
def Opens {α : Type} (P : Program) (d : Kd α) (t : TypeId) (G : α → Prop) : Prop :=
 ∀ {H : Type} (enc : TypeId × Value → H) (w : World) (base : Nat) (spare : Nat → Bool) (held : Bool) (fuel : Nat) (cs : List Value) (x : DataW H × List MemPlace),
  DataW.trod enc P w base spare held fuel t cs = some x → Light P t x.1 → ∃ v : α, d.K w v cs ∧ G v
theorem opens_int {P : Program} {t : TypeId} {k : IntKind} (ht : P.underlying t = some (.int k)) : Opens P (Kd.int k) t (Wf k) := by
 intro H enc w base spare held fuel cs x h _
 obtain ⟨n, rfl, _, hw⟩ := DataW.trod_int ht h
 exact ⟨n, rfl, hw⟩
theorem opens_iso {α β : Type} {P : Program} {t : TypeId} {d : Kd α} {G : α → Prop} (f : β → α) (g : α → β) (hfg : ∀ a, f (g a) = a) (h : Opens P d t G) : Opens P (Kd.iso d f) t (fun x => G (f x)) := by
 intro H enc w base spare held fuel cs x hx hw
 obtain ⟨v, hk, hg⟩ := h enc w base spare held fuel cs x hx hw
 exact ⟨g v, show d.K w (f (g v)) cs by rw [hfg]; exact hk, by show G (f (g v)); rw [hfg]; exact hg⟩
theorem light_all {H : Type} {P : Program} {e : TypeId} : ∀ {l : List (DataW H)} {d : DataW H}, d ∈ l → ∀ n ∈ d.weights P e, n ∈ DataW.weightsAll P e l
 | y :: r, d, hd, n, hn => by
  unfold DataW.weightsAll
  rw [List.mem_append]
  rcases List.mem_cons.1 hd with rfl | hd
  ·exact .inl hn
  ·exact .inr (light_all hd n hn)
theorem list_of_all {α : Type} {Q : Nat → α → Prop} : ∀ (n : Nat), (∀ i, i < n → ∃ v, Q i v) → ∃ l : List α, l.length = n ∧ ∀ i v, l[i]? = some v → Q i v
 | 0, _ => ⟨[], rfl, fun i v h => by simp at h⟩
 | n + 1, h => by
  obtain ⟨l, hl, hq⟩ := list_of_all n (fun i hi => h i (by omega))
  obtain ⟨v, hv⟩ := h n (by omega)
  refine ⟨l ++ [v], by simp [hl], fun i u hu => ?_⟩
  rcases Nat.lt_or_ge i l.length with hi | hi
  ·rw [List.getElem?_append_left hi] at hu
   exact hq i u hu
  ·rw [List.getElem?_append_right hi] at hu
   have : i = n := by
    have := (List.getElem?_eq_some_iff.1 hu).1
    simp at this
    omega
   subst this
   have : i - l.length = 0 := by omega
   rw [this] at hu
   simp at hu
   subst hu
   exact hv
theorem opens_slice {α : Type} {P : Program} {t e : TypeId} {d : Kd α} {G : α → Prop} (B : Nat) (ht : P.underlying t = some (.slice e)) (hc : P.cellsOf e = d.sz) (hb : P.bytesOf e = B) (h : Opens P d e G) :
  Opens P (Kd.slice e d) t (fun xs => xs.length * B ≤ 140737488351232 ∧ ∀ x ∈ xs, G x) := by
 intro H enc w base spare held fuel cs x hx hw
 rcases DataW.trod_slice ht hx with ⟨rfl, rfl⟩ | ⟨a, len, cap, elems, rest, n, _, rfl, rfl, hba, hl, hm, hel, hget, _, _⟩
 ·exact ⟨[], ⟨none, 0, rfl, Nat.le_refl _, rfl, by simp, fun h0 => absurd h0 (by simp)⟩, by simp, fun x hx => by simp at hx⟩
 ·have hwt : ∀ n ∈ (DataW.slice (elems.map (·.1)) (rest.map (·.1)) : DataW H).weights P t, n ≤ 140737488351232 := hw
  have hdef : (DataW.slice (elems.map (·.1)) (rest.map (·.1)) : DataW H).weights P t = ((elems.map (·.1)).length + (rest.map (·.1)).length) * P.bytesOf e :: (DataW.weightsAll P e (elems.map (·.1)) ++ DataW.weightsAll P e (rest.map (·.1))) := by
   simp [DataW.weights, ht]
  rw [hdef] at hwt
  obtain ⟨xs, hxl, hxq⟩ := list_of_all (Q := fun i v => G v ∧ ∃ c, c.length = d.sz ∧ d.K w v c ∧ ∀ j u, c[j]? = some u → w.cell? (a.add (i * d.sz + j)) = some u) len (fun i hi => by
   have hg := hget i hi
   rw [List.getElem?_eq_getElem (by omega)] at hg
   obtain ⟨c, hc1, hc2⟩ := Option.bind_eq_some_iff.1 hg
   rw [hc] at hc1
   obtain ⟨_, hcl, hat⟩ := World.cells?_some hc1
   obtain ⟨v, hk, hgv⟩ := h enc w base spare held n c _ hc2 (fun q hq => hwt q (List.mem_cons_of_mem _ (List.mem_append_left _ (light_all (List.mem_map.2 ⟨_, List.getElem_mem _, rfl⟩) q hq))))
   refine ⟨v, hgv, c, hcl, hk, fun j u hu => ?_⟩
   have hj : j < d.sz := by
    have := (List.getElem?_eq_some_iff.1 hu).1
    omega
   have := hat j hj
   rw [hu] at this
   rw [← this]
   congr 1
   unfold Addr.add
   by_cases hj0 : j = 0
   ·subst hj0; simp
   ·by_cases hi0 : i * d.sz = 0
    ·simp [hi0, hj0]
    ·simp [hi0, hj0, Nat.add_assoc])
  have hmax : len ≤ 9223372036854775807 := by simp only [maxLen] at hm; omega
  refine ⟨xs, ⟨some a, cap, by rw [hxl], by omega, hxl ▸ rfl, by omega, fun _ => ⟨a, rfl, fun j p hp => (hxq j p hp).2⟩⟩, ?_, fun y hy => ?_⟩
  ·have := hwt _ List.mem_cons_self
   rw [hb] at this
   simp only [List.length_map, hel] at this
   rw [hxl]
   exact Nat.le_trans (Nat.mul_le_mul_right _ (Nat.le_add_right _ _)) this
  ·obtain ⟨i, hi, rfl⟩ := List.mem_iff_getElem.1 hy
   exact (hxq i _ (List.getElem?_eq_getElem hi)).1
def OpensF {α : Type} (P : Program) (d : Kd α) (fs : List Field) (o : Nat) (G : α → Prop) : Prop :=
 ∀ {H : Type} (enc : TypeId × Value → H) (w : World) (base : Nat) (spare : Nat → Bool) (held : Bool) (n : Nat) (cs : List Value) (xs : List (DataW H × List MemPlace)),
  xs.length = fs.length → cs.length = d.sz → (∀ (i : Nat) (f : Field), fs[i]? = some f → DataW.trod enc P w base spare held n f.type ((cs.drop (f.offset - o)).take (P.cellsOf f.type)) = xs[i]?) →
  (∀ (i : Nat) (f : Field) (x : DataW H × List MemPlace), fs[i]? = some f → xs[i]? = some x → Light P f.type x.1) → ∃ v : α, d.K w v cs ∧ G v
theorem opensF_one {α : Type} {P : Program} {d : Kd α} {f : Field} {o : Nat} {G : α → Prop} (ho : f.offset = o) (hc : P.cellsOf f.type = d.sz) (h : Opens P d f.type G) : OpensF P d [f] o G := by
 intro H enc w base spare held n cs xs hl hcs hat hw
 have h0 := hat 0 f rfl
 rw [ho, Nat.sub_self, List.drop_zero, hc, ← hcs, List.take_length] at h0
 have hx : xs[0]? = some (xs[0]'(by rw [hl]; simp)) := List.getElem?_eq_getElem _
 rw [hx] at h0
 exact h enc w base spare held n cs _ h0 (hw 0 f _ rfl hx)
theorem opensF_cons {α β : Type} {P : Program} {a : Kd α} {b : Kd β} {f : Field} {fs : List Field} {o : Nat} {Ga : α → Prop} {Gb : β → Prop} (ho : f.offset = o) (hc : P.cellsOf f.type = a.sz) (hle : ∀ g ∈ fs, o + a.sz ≤ g.offset)
  (h : Opens P a f.type Ga) (h' : OpensF P b fs (o + a.sz) Gb) : OpensF P (Kd.pair a b) (f :: fs) o (fun x => Ga x.1 ∧ Gb x.2) := by
 intro H enc w base spare held n cs xs hl hcs hat hw
 have hcs' : cs.length = a.sz + b.sz := hcs
 match xs, hl with
 | x :: xs, hl =>
  have h0 := hat 0 f rfl
  rw [ho, Nat.sub_self, List.drop_zero, hc] at h0
  obtain ⟨v, hk, hg⟩ := h enc w base spare held n _ _ h0 (hw 0 f x rfl rfl)
  obtain ⟨u, hk', hg'⟩ := h' enc w base spare held n (cs.drop a.sz) xs (by simpa using hl) (by rw [List.length_drop]; omega) (fun i g hi => by
   have h1 := hat (i + 1) g hi
   have hle' := hle g (List.mem_of_getElem? hi)
   rw [List.drop_drop, show a.sz + (g.offset - (o + a.sz)) = g.offset - o by omega]
   exact h1) (fun i g y hi hy => hw (i + 1) g y hi hy)
  exact ⟨(v, u), ⟨cs.take a.sz, cs.drop a.sz, (List.take_append_drop _ _).symm, hk, hk'⟩, hg, hg'⟩
theorem opens_struct {α : Type} {P : Program} {t : TypeId} {d : Kd α} {fs : Array Field} {G : α → Prop} (ht : P.underlying t = some (.struct fs)) (hc : P.cellsOf t = d.sz) (h : OpensF P d fs.toList 0 G) : Opens P d t G := by
 intro H enc w base spare held fuel cs x hx hw
 obtain ⟨xs, n, _, rfl, hl, hlen, hat⟩ := DataW.trod_struct ht hx
 refine h enc w base spare held n cs xs (by simpa using hlen) (hl.trans hc) (fun i f hi => ?_) (fun i f y hi hy q hq => ?_)
 ·rw [Nat.sub_zero]
  exact hat i f (by simpa using hi)
 ·refine hw q ?_
  have : (DataW.agg (xs.map (·.1)) : DataW H).weights P t = DataW.weightsEach P (fs.toList.map (·.type)) (xs.map (·.1)) := by simp [DataW.weights, ht]
  show q ∈ (DataW.agg (xs.map (·.1)) : DataW H).weights P t
  rw [this]
  exact DataW.weights_mem_each (j := i) (t := f.type) (d := y.1) (by rw [List.getElem?_map, hi]; rfl) (by rw [List.getElem?_map, hy]; rfl) q hq
theorem open_param {α : Type} {P : Program} {d : Kd α} {t : TypeId} {G : α → Prop} (O : Opens P d t G) {H : Type} {enc : TypeId × Value → H} {w : World} {base : Nat} {spare : Nat → Bool} {held : Bool} {v : Value} {x : DataW H} {p : List MemPlace} {ts : List TypeId} {ds : List (DataW H)} {j : Nat}
  (hsz : (DataW.weightsEach P ts ds).all (· ≤ reachBytes) = true) (ht : ts[j]? = some t) (hd : ds[j]? = some x) (h : DataW.Trod enc P w base spare held t v x p) : ∃ y : α, d.K w y v.cells.toList ∧ G y := by
 obtain ⟨fuel, hf⟩ := h
 exact O enc w base spare held fuel _ _ hf (fun n hn => by
  have := List.all_eq_true.1 hsz n (DataW.weights_mem_each ht hd n hn)
  have h2 : n ≤ reachBytes := by simpa using this
  exact Nat.le_trans h2 (by decide))
end Go.Proofs.Ytfnophaiamkmpaa.Print
