/- The calls of slices.Clone, Sort and Compact at lists of whole numbers, and of sets.Of: the elements of any list (fewer than 2^44), sorted, each once, in memory of the call's own. -/
import Derived.Test.YtcfeehaoeaoegaaPrint0
import Derived.Test.YtcfeehaoeaoegaaShelf
import Derived.Test.YtcfeehaoeaoegaaHPSet
import Derived.Lib.OwnBridge
import Derived.Sort.OwnSortedInts
namespace Go.Proofs.Ytcfeehaoeaoegaa.Print
open Go.RowKit Go.Proofs.YtcfeehaoeaoegaaW.PrintWords Go.Proofs.YtcfeehaoeaoegaaW.PrintLast Go.Proofs.YtcfeehaoeaoegaaW.PrintMore
set_option linter.unusedVariables false
set_option linter.unusedSimpArgs false

theorem spot_of_cell {w : World} {ad : Addr} {v : Value} (h : w.cell? (ad.add 0) = some v) : ad = ⟨ad.block, ad.off, none⟩ := by
  have h0 : ad.add 0 = ad := by simp [Addr.add]
  rw [h0] at h
  unfold World.cell? at h
  cases hs : ad.spot with
  | none => cases ad; simp_all
  | some s =>
    rw [hs] at h
    split at h <;> simp at h
/-- A list of whole numbers that is read, by its cells. -/
theorem cells_of_C {w : World} {A : Option Addr} {n : Nat} {l : List Int} (h : Kd.C (Kd.int .i64) w A n l) :
    (n = 0 ∧ l = []) ∨ (0 < n ∧ ∃ b off, A = some ⟨b, off, none⟩ ∧ ∀ j, j < l.length → w.cell? ⟨b, off + j, none⟩ = some (.int .i64 (l.getD j 0))) := by
  obtain ⟨hl, hm, hc⟩ := h
  rcases Nat.eq_zero_or_pos n with h0 | h0
  · left
    exact ⟨h0, List.eq_nil_of_length_eq_zero (hl.trans h0)⟩
  · right
    obtain ⟨ad, hA, hc2⟩ := hc h0
    subst hA
    have hcell : ∀ j, j < l.length → w.cell? (ad.add j) = some (.int .i64 (l.getD j 0)) := by
      intro j hj
      obtain ⟨c, hs, hr, hcc⟩ := hc2 j _ (List.getElem?_eq_getElem hj)
      have hr' : c = [.int .i64 (l[j])] := hr
      subst hr'
      have := hcc 0 _ rfl
      rw [show (Kd.int .i64).sz = 1 from rfl, Nat.mul_one, Nat.add_zero] at this
      rw [this]
      simp [List.getElem?_eq_getElem hj]
    have h1 := hcell 0 (by omega)
    have hs := spot_of_cell h1
    refine ⟨h0, ad.block, ad.off, congrArg some hs, fun j hj => ?_⟩
    have h2 := hcell j hj
    have : ad.add j = ⟨ad.block, ad.off + j, none⟩ := by
      unfold Addr.add
      split
      · rename_i hz
        subst hz
        exact hs
      · rfl
    rw [← this]
    exact h2
theorem clone_C (A : Option Addr) (n c : Nat) (l : List Int) (w : World) (hr : Kd.C (Kd.int .i64) w A n l) (hb : n * 8 ≤ 140737488355328) :
    Calls Try.prog 53 #[.slice A n c] w fun e w' => ∃ v' : Value, e = .returned v' ∧ w'.ownsRow w.heap.size 3 1 v' n (nums .i64 l) ∧ Below w.heap.size w w' := by
  rcases cells_of_C hr with ⟨rfl, rfl⟩ | ⟨h0, b, off, rfl, hc⟩
  · cases A with
    | none =>
      refine (Try.slices_Clone_int_nil 0 c w).mono ?_
      rintro e w' ⟨rfl, rfl⟩
      exact ⟨_, rfl, own_nil _ _ _ _, Below.refl _ _⟩
    | some a =>
      refine (Try.slices_Clone_int_zero a c w).mono ?_
      rintro e w' ⟨v', rfl, ho, _, hB⟩
      exact ⟨_, rfl, by simpa [nums] using ho, hB⟩
  · have hl : l.length = n := hr.1
    refine (Try.slices_Clone_int b off n c l w (by omega) hb hc).mono ?_
    rintro e w' ⟨v', rfl, ho, _, hB⟩
    rw [← hl, List.take_length, hl] at ho
    exact ⟨_, rfl, ho, hB⟩
theorem sort_own (base : Nat) (v : Value) (l : List Int) (w : World) (ho : w.ownsRow base 3 1 v l.length (nums .i64 l)) (hl : l.length < 4611686018427387904) :
    Calls Try.prog 76 #[v] w fun e w' => e = .returned (.tuple #[]) ∧ w'.ownsRow base 3 1 v l.length (nums .i64 (l.mergeSort fun x y => decide (x ≤ y))) ∧ w.grownBy w' v.ownBlock := by
  by_cases hv : v = .slice none 0 0
  · subst hv
    have h0 : l = [] := by
      rcases ho.2 with ⟨_, h⟩ | ⟨g, cap, cur, h, _⟩
      · exact List.eq_nil_of_length_eq_zero h
      · cases h
    subst h0
    refine (Try.slices_Sort_int_none none 0 w).mono ?_
    rintro e w' ⟨rfl, rfl⟩
    exact ⟨rfl, by simpa using ho, World.grownBy.refl _ _⟩
  · obtain ⟨g, cap, rfl, hbg, hgl, hncap, hcm, hlen, hH⟩ := Lib.holds_of_ownsRow (zs := l) ho hv
    refine (Try.slices_Sort_int g 0 cap l w hH hgl hl).mono ?_
    rintro e w' ⟨rfl, n, os, rfl⟩
    rcases ho.2 with ⟨h0, _⟩ | ⟨g', cap', cur, hv', hbase, hb, h1, h2, h3, h4⟩
    · cases h0
    cases hv'
    exact ⟨rfl, ownsRow_sortedI (n := n) (os := os) (ts := l.mergeSort fun x y => decide (x ≤ y)) (List.length_mergeSort l) hbase hb h1 h2 h3, grownBy_sortedI _⟩
theorem compact_own (base : Nat) (v : Value) (l : List Int) (w : World) (ho : w.ownsRow base 3 1 v l.length (nums .i64 l)) :
    Calls Try.prog 77 #[v] w fun e w' => ∃ v' : Value, e = .returned v' ∧ w'.ownsRow base 3 1 v' (Lib.compact l).length (nums .i64 (Lib.compact l)) ∧ w.grownBy w' v.ownBlock ∧ v'.ownBlock = v.ownBlock := by
  by_cases hv : v = .slice none 0 0
  · subst hv
    have h0 : l = [] := by
      rcases ho.2 with ⟨_, h⟩ | ⟨g, cap, cur, h, _⟩
      · exact List.eq_nil_of_length_eq_zero h
      · cases h
    subst h0
    refine (Try.slices_Compact_int_empty none 0 w).mono ?_
    rintro e w' ⟨rfl, rfl⟩
    exact ⟨_, rfl, own_nil _ _ _ _, World.grownBy.refl _ _, rfl⟩
  · obtain ⟨g, cap, rfl, hbg, hgl, hncap, hcm, hlen, hH⟩ := Lib.holds_of_ownsRow (zs := l) ho hv
    simp only [maxLen] at hcm
    refine (Try.slices_Compact_int g 0 cap l w hH (by omega) hncap).mono ?_
    rintro e w' ⟨rfl, q, rfl⟩
    have hle := Lib.compact_length_le l
    have hc := Lib.ownsRow_putRow (q := q) (k := (Lib.compact l).length) (ys := Lib.compact l ++ List.replicate (l.length - (Lib.compact l).length) 0) (zs := l) ho (by simp; omega) (by omega)
    rw [List.take_left] at hc
    refine ⟨_, rfl, hc, ?_, rfl⟩
    have := grownBy_sortedI (w := w) (g := g) (n := q) (os := #[]) (Lib.compact l ++ List.replicate (l.length - (Lib.compact l).length) 0).toArray
    rw [Sort.grow_empty] at this
    exact this

def sets_Of.f (l0 : List Int) : Option (List Int) := if l0.length < 17592186044416 then some (setOf l0) else none

/-- A list of whole numbers that the call owns, in the words of the print. -/
theorem R_of_owns {w : World} {base : Nat} {v : Value} {l : List Int} (h : w.ownsRow base 3 1 v l.length (nums .i64 l)) : Kd.R (Kd.int .i64) 3 w base (fun _ => True) v l :=
  ⟨fun _ _ => trivial, nums .i64 l, h, by show (nums .i64 l).length = l.length * 1; simp [nums], fun j p hj => by
    have hjl := (List.getElem?_eq_some_iff.1 hj).1
    have hp : p = l[j] := (List.getElem?_eq_some_iff.1 hj).2.symm
    subst hp
    show (List.take 1 (List.drop (j * 1) (nums .i64 l))) = [Value.int .i64 l[j]]
    rw [Nat.mul_one, nums, ← List.map_drop, List.drop_eq_getElem_cons hjl]
    rfl⟩

set_option maxHeartbeats 800000 in
theorem sets_Of.calls (A0 : Option Addr) (c0 : Nat) (l0 : List Int) (r : List Int) (w : World) (hr0 : Kd.C (Kd.int .i64) w A0 l0.length l0) (hc0 : l0.length ≤ c0) (h : sets_Of.f l0 = some r) :
    Calls Try.prog 70 #[.slice A0 l0.length c0] w fun e w' => ∃ v0_ : Value, e = .returned (v0_) ∧ Kd.R (Kd.int .i64) 3 w' w.heap.size (fun _ => True) v0_ r ∧ Below w.heap.size w w' := by
  unfold sets_Of.f at h
  by_cases hl : l0.length < 17592186044416
  · rw [if_pos hl] at h
    obtain rfl := Option.some.inj h
    clear h
    have h1 := Aside0.mk (clone_C A0 l0.length c0 l0 w hr0 (by omega))
    clear hr0 hc0
    go_enter Try.func70, Try.ntmps70
    go_wp2_with fail
    refine h1.out.mono ?_
    rintro e w1 ⟨v1, rfl, ho1, hB1⟩
    have h2 := Aside0.mk (sort_own _ v1 l0 w1 ho1 (by omega))
    have H1 := Aside0.mk hB1
    have O1 := Aside0.mk ho1
    clear ho1 hB1
    go_wp2_with fail
    refine h2.out.mono ?_
    rintro e w2 ⟨rfl, ho2, hg2⟩
    have hlm : (l0.mergeSort fun x y => decide (x ≤ y)).length = l0.length := List.length_mergeSort l0
    have h3 := Aside0.mk (compact_own _ v1 (l0.mergeSort fun x y => decide (x ≤ y)) w2 (by rw [hlm]; exact ho2))
    have H2 := Aside0.mk hg2
    clear ho2 hg2 hlm
    go_wp2_with fail
    refine h3.out.mono ?_
    rintro e w3 ⟨v3, rfl, ho3, hg3, _⟩
    have O3 := Aside0.mk ho3
    have H3 := Aside0.mk hg3
    clear ho3 hg3
    go_wp2_with fail
    go_ret
    have hb : ∀ k, v1.ownBlock = some k → w.heap.size ≤ k := own_base O1.out
    exact ⟨_, rfl, by rw [← compact_sort]; exact R_of_owns O3.out, (H1.out.grown H2.out H1.out.size hb).grown H3.out (Nat.le_trans H1.out.size H2.out.size) hb⟩
  · rw [if_neg hl] at h
    cases h
end Go.Proofs.Ytcfeehaoeaoegaa.Print
