import Derived.Test.YtfnophaiamkmpaaM2
import Derived.Shelf.SlicesE.Clone
import Derived.Test.YtfnophaiamkmpaaM0
namespace Go.Proofs
open Go.Shelf Go.RowKit Go.Lib
def Try.ren_arcs : Go.Shelf.Ren := ⟨fun | 41 => 56 | n => n, fun | 22 => 22 | 23 => 58 | 4 => 4 | n => n, fun | n => n⟩
theorem Try.lays_arcs : Go.Proofs.SlLaysE0.n41 Try.prog Try.ren_arcs := {
 mixed := by kernel_rfl
 f41 := ⟨Try.f56.name, by decide, Try.func56.trans (congrArg some (by kernel_rfl))⟩
 t4 := Try.underlying4
 a4 := Try.isAgg4
 z4 := Try.sizeOf4
 v4 := Try.zeroValue4
 t22 := Try.underlying22
 a22 := Try.isAgg22
 z22 := Try.sizeOf22
 v22 := Try.zeroValue22 }
set_option maxHeartbeats 2000000 in
set_option maxRecDepth 100000 in
theorem any_clone_zero {P : Program} {ρ : Ren} (L : SlLaysE0.n41 P ρ) (i0 : TypeInfo) (z : Value) (size bytes : Nat) (hi : P.info? (ρ.t 23) = some i0) (hz0 : i0.zero = some z) (hz1 : i0.size = size) (hz2 : i0.bytes = bytes) (hzs : z.cells.size = size) (hsz : 0 < size)
  (z23 : ∀ w, (Go.sizeOf (ρ.t 23)).run P w = .ok size w) (a : Addr) (c : Nat) (w : World) :
  Calls P (ρ.f 41) #[.slice (some a) 0 c] w fun e w' => ∃ v', e = .returned v' ∧ w'.ownsRow w.heap.size (ρ.t 23) size v' 0 [] ∧ Below w.heap.size w w' := by
 have mixed := L.mixed; have t4 := L.t4; have a4 := L.a4; have z4 := L.z4; have v4 := L.v4; have t22 := L.t22; have a22 := L.a22; have z22 := L.z22; have v22 := L.v22
 have q22 : ∀ (w : World) (a : Option Addr) (n c n' c' : Nat), (binOp .eql (ρ.t 22) (.slice a n c) (.slice none n' c')).run P w = .ok (.bool a.isNone) w := fun w a n c n' c' => Lib.run_eql_slice_nil w _ _ a n c n' c' L.t22
 have u22 : ∀ w, Sem.run P (underlying (ρ.t 22)) w = .ok (TypeDesc.slice (ρ.t 23)) w := run_underlying t22
 obtain ⟨_, _, FG⟩ := L.f41
 go_enter FG, SlBodyN.n41_ntmps ρ
 go_wp2_with (at_builtin; refine wpList_append_own _ rfl _ _ (ρ.t 22) rfl w.heap.size (ρ.t 23) i0 z size bytes t22 hi hz0 hz1 hz2 hzs hsz _ _ _ rfl (World.ownsRow_made w #[] 0 (Nat.le_refl _) (Nat.zero_le _) (by simp)) a 0 c [] rfl (by simp) (by intro j u hj; simp at hj) (by intro u hu; cases hu) (by unfold maxLen; omega) (by omega) (by simp) ?_)
 intro v' w1 hown hgrow hnil
 go_wp2
 go_ret
 refine ⟨v', rfl, by simpa using hown, ?_⟩
 exact ((Below.refl _ w).alloc (Nat.le_refl _) _).grown hgrow (by simp) (by intro k hk; simp [Value.ownBlock] at hk; omega)
end Go.Proofs
namespace Go.Proofs.Ytfnophaiamkmpaa.Print
open Go.RowKit Go.Proofs.YtfnophaiamkmpaaW.PrintWords Go.Proofs.YtfnophaiamkmpaaW.PrintLast Go.Proofs.YtfnophaiamkmpaaW.PrintMore
set_option linter.unusedVariables false
set_option linter.unusedSimpArgs false
def arcVals (xs : List S58) : List Value := xs.flatMap (fun x => [.int .i64 x.f0, .int .i64 x.f1])
theorem arcVals_len (xs : List S58) : (arcVals xs).length = xs.length * 2 := by
 induction xs with
 | nil => rfl
 | cons x t ih =>
  simp [arcVals] at ih ⊢
  omega
theorem arcVals_at : ∀ (xs : List S58) (j : Nat) (u : Value), (arcVals xs)[j]? = some u → ∃ p i, xs[j / 2]? = some p ∧ i = j % 2 ∧ [Value.int .i64 p.f0, Value.int .i64 p.f1][i]? = some u
 | [], j, u, h => by simp [arcVals] at h
 | x :: t, 0, u, h => ⟨x, 0, rfl, rfl, h⟩
 | x :: t, 1, u, h => ⟨x, 1, rfl, rfl, h⟩
 | x :: t, j + 2, u, h => by
  obtain ⟨p, i, h1, h2, h3⟩ := arcVals_at t j u h
  exact ⟨p, i, by rw [show (j + 2) / 2 = j / 2 + 1 by omega]; exact h1, by omega, h3⟩
theorem arcVals_drop : ∀ (xs : List S58) (j : Nat) (p : S58), xs[j]? = some p → ((arcVals xs).drop (j * 2)).take 2 = [.int .i64 p.f0, .int .i64 p.f1]
 | [], j, p, h => by simp at h
 | x :: t, 0, p, h => by
  simp at h
  subst h
  rfl
 | x :: t, j + 1, p, h => by
  rw [show (j + 1) * 2 = j * 2 + 2 by omega]
  exact arcVals_drop t j p h
theorem arcVals_one (xs : List S58) : ∀ u ∈ arcVals xs, u.oneCell' = true := by
 intro u hu
 simp only [arcVals, List.mem_flatMap] at hu
 obtain ⟨x, _, h⟩ := hu
 simp at h
 rcases h with rfl | rfl <;> rfl
theorem Rarc_of_own {w : World} {base : Nat} {ok : Nat → Prop} {v : Value} {xs : List S58} (ho : w.ownsRow base 58 2 v xs.length (arcVals xs)) (hok : ∀ k, v.ownBlock = some k → ok k) : Kd.R k58 58 w base ok v xs :=
 ⟨hok, arcVals xs, ho, arcVals_len xs, fun j p hp => by
  show k58.M w base _ p (((arcVals xs).drop (j * 2)).take 2)
  rw [arcVals_drop xs j p hp]
  exact k58_mkM _ _ _ _⟩
theorem clone_arcs (A : Option Addr) (c : Nat) (xs : List S58) (w : World) (hr : Kd.C k58 w A xs.length xs) (hb : xs.length ≤ 1000000000) :
  Calls Try.prog 56 #[.slice A xs.length c] w fun e w' => ∃ v' : Value, e = .returned v' ∧ Kd.R k58 58 w' w.heap.size (fun _ => True) v' xs ∧ Below w.heap.size w w' := by
 obtain ⟨i, h1, hh⟩ := Option.map_eq_some_iff.1 info58
 simp only [Prod.mk.injEq] at hh
 cases A with
 | none =>
  have h0 : xs = [] := by
   rcases Nat.eq_zero_or_pos xs.length with h | h
   ·exact List.eq_nil_of_length_eq_zero h
   ·obtain ⟨ad, h2, _⟩ := hr.2.2 h
    cases h2
  subst h0
  refine (AnyE.slices_Clone_nil Try.lays_arcs 0 c w).mono ?_
  rintro e w' ⟨rfl, rfl⟩
  exact ⟨_, rfl, Kd.R_nil _ _ _ _ _, Below.refl _ _⟩
 | some a =>
  rcases Nat.eq_zero_or_pos xs.length with h0 | h0
  ·have h0 : xs = [] := List.eq_nil_of_length_eq_zero h0
   subst h0
   refine (any_clone_zero Try.lays_arcs i _ 2 16 h1 hh.1 hh.2.1 hh.2.2 rfl (by decide) Try.sizeOf58 a c w).mono ?_
   rintro e w' ⟨v', rfl, ho, hB⟩
   exact ⟨_, rfl, Rarc_of_own ho (fun _ _ => trivial), hB⟩
  ·obtain ⟨ad, hA, hc2⟩ := hr.2.2 h0
   injection hA with hA
   subst hA
   have hcells : ∀ j u, (arcVals xs)[j]? = some u → w.cell? (a.add j) = some u := by
    intro j u hj
    obtain ⟨p, i, hp, hi, hu⟩ := arcVals_at xs j u hj
    obtain ⟨cs, hs, hk, hcc⟩ := hc2 _ p hp
    have e1 := k58_open hk
    subst e1
    have := hcc i u hu
    rw [show j / 2 * k58.sz + i = j by rw [show k58.sz = 2 from rfl]; omega] at this
    exact this
   obtain ⟨x, t, rfl⟩ : ∃ x t, xs = x :: t := by
    cases xs with
    | nil => simp at h0
    | cons x t => exact ⟨x, t, rfl⟩
   have e0 := spot_of_cell (hcells 0 (.int .i64 x.f0) rfl)
   rw [e0]
   refine (AnyE.slices_Clone Try.lays_arcs i _ 2 16 h1 hh.1 hh.2.1 hh.2.2 rfl (by decide) Try.sizeOf58 a.block a.off (x :: t).length c (arcVals (x :: t)) w (arcVals_len _) (by unfold maxLen; omega) (by omega) (fun j u hj => ?_) (arcVals_one _)).mono ?_
   ·have := hcells j u hj
    rw [e0, Addr.add_lit] at this
    exact this
   ·rintro e w' ⟨v', rfl, ho, _, hB⟩
    exact ⟨_, rfl, Rarc_of_own ho (fun _ _ => trivial), hB⟩
theorem clone_ints (A : Option Addr) (c : Nat) (l : List Int) (w : World) (hr : Kd.C (Kd.int .i64) w A l.length l) (hb : l.length ≤ 1000000000) :
  Calls Try.prog 57 #[.slice A l.length c] w fun e w' => ∃ v' : Value, e = .returned v' ∧ Kd.R (Kd.int .i64) 3 w' w.heap.size (fun _ => True) v' l ∧ Below w.heap.size w w' := by
 refine (clone_C A l.length c l w hr (by omega)).mono ?_
 rintro e w' ⟨v', rfl, ho, hB⟩
 exact ⟨v', rfl, Kd.R_of_own (by simpa [nums, encs] using ho) (fun _ _ => trivial), hB⟩
end Go.Proofs.Ytfnophaiamkmpaa.Print
