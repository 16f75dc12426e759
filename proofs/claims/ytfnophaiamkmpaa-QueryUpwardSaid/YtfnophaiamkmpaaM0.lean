/- Several texts of this claim in one: HXShort, HXPar, HXMap. -/
import Derived.Test.YtfnophaiamkmpaaPrint0
import Derived.Test.YtfnophaiamkmpaaV0
import Derived.Maps.OwnOps
import Derived.Maps.RangeWalk
namespace Go.Proofs.Ytfnophaiamkmpaa.Print
open Go.RowKit Go.Proofs.YtfnophaiamkmpaaW.PrintWords Go.Proofs.YtfnophaiamkmpaaW.PrintLast Go.Proofs.YtfnophaiamkmpaaW.PrintMore
set_option linter.unusedVariables false
set_option linter.unusedSimpArgs false
theorem byR {p q : Prop} (h : q) (k : q → p := by intro h_; (with_reducible repeat (first | apply Kd.R_alloc | apply Kd.R_drewN | apply Kd.R_drew)); exact h_) : p := k h
theorem byS {p q : Prop} (h : q) (k : q → p := by intro h_; (with_reducible repeat (first | apply Kd.S_alloc | apply Kd.S_drewN | apply Kd.S_drew)); exact h_) : p := k h
theorem byK {p q : Prop} (h : q) (k : q → p := by intro h_; (with_reducible repeat (first | refine blk_drewN ?_ _ | refine blk_drew ?_ | refine blk_alloc ?_ _)); exact h_) : p := k h
theorem byC {p q : Prop} (h : q) (k : q → p := by intro h_; (repeat (first | exact h_ | (with_reducible refine Kd.C_alloc ?_ _) | (with_reducible refine Kd.C_drewN ?_ _) | (with_reducible refine Kd.C_drew ?_)))) : p := k h
theorem byB {p q : Prop} (h : q) (k : q → p := by intro h_; (repeat (first | (with_reducible first | exact h_ | apply below_alloc | apply pw_below_drewN | apply below_drew1) | exact h_))) : p := k h
theorem byB1 {p q q1 : Prop} (h : q) (h1 : q1) (k : q → q1 → p := by intro h_ h1_; (repeat (first | (with_reducible first | exact h_ | apply below_alloc | apply pw_below_drewN | apply below_drew1 | refine below_set ?_ h1_) | exact h_))) : p := k h h1
theorem byB2 {p q q1 q2 : Prop} (h : q) (h1 : q1) (h2 : q2) (k : q → q1 → q2 → p := by intro h_ h1_ h2_; (repeat (first | (with_reducible first | exact h_ | apply below_alloc | apply pw_below_drewN | apply below_drew1 | refine below_set ?_ h1_ | refine below_set ?_ h2_) | exact h_))) : p := k h h1 h2
theorem byB3 {p q q1 q2 q3 : Prop} (h : q) (h1 : q1) (h2 : q2) (h3 : q3) (k : q → q1 → q2 → q3 → p := by intro h_ h1_ h2_ h3_; (repeat (first | (with_reducible first | exact h_ | apply below_alloc | apply pw_below_drewN | apply below_drew1 | refine below_set ?_ h1_ | refine below_set ?_ h2_ | refine below_set ?_ h3_) | exact h_))) : p := k h h1 h2 h3
theorem odt {p : Prop} [Decidable p] (h : decide p = true := by first | (with_reducible assumption) | assumption) : p := of_decide_eq_true h
theorem byF {p : Prop} (h : p := by first | rfl | (simp; done) | (simp [*]; done)) : p := h
theorem byE {p : Prop} (h : p := by first | rfl | (simp [errW_none, errW_some] <;> rfl) | (simp [*, errW_none, errW_some] <;> rfl)) : p := h
theorem byL {p : Prop} (k : p := by (try simp only [List.map_toArray, List.map_cons, List.map_nil]); first | done | rfl | (simp only [List.length_drop, List.length_take]; rfl)) : p := k
theorem putW : (∀ (a : Act) (v : Value), a.put none v = a) ∧ (∀ (a : Act) (d : Tmp) (v : Value), a.put (some d) v = { a with tmps := a.tmps.setIfInBounds d v }) ∧ (∀ (α : Type) (xs : List α) (i : Nat) (v : α), xs.toArray.setIfInBounds i v = (xs.set i v).toArray) ∧ (∀ (α : Type) (x : α) (xs : List α) (v : α), (x :: xs).set 0 v = v :: xs) ∧ (∀ (α : Type) (x : α) (xs : List α) (n : Nat) (v : α), (x :: xs).set (n + 1) v = x :: xs.set n v) ∧ (∀ n : Int, IntKind.i64.wrap n = Go.RowKit.wrap64 n) ∧ (∀ n : Int, IntKind.i32.wrap n = Go.RowKit.wrap32 n) :=
 ⟨fun _ _ => rfl, fun _ _ _ => rfl, fun _ _ _ _ => List.setIfInBounds_toArray .., fun _ _ _ _ => rfl, fun _ _ _ _ _ => rfl, i64_w, i32_w⟩
def bits (n m : Nat) : Array Bool := ((List.range n).map m.testBit).toArray
section
variable {P : Program} {ops : Array Oper} {Q : Exit → Act → World → Prop} {md : Region.Mode} {S : World → Prop} {ds : List Nat}
theorem s_ {id n : Nat} {a : Act} {w : World} (S : World → Prop) (ds : List Nat) (hS : S w.drew) (h : S w.drew → wpAnyLast P .any ops Q S ds n (bits n 0) a w.drew) (hn : ops.size = n := by rfl) (hm : P.follows .mixedOrders = true := by kernel_rfl) (hl : Array.replicate n false = bits n 0 := by rfl) : (Code.region id ops true).wp P Q a w := start_ (bits n 0) hm hn hl hS h
section
variable (i d : Nat) {n m fuel : Nat} {oi : Oper} {v : Value} {a a' : Act} {w : World}
theorem p_ (h : wpAnyLast P md ops Q S ds fuel (bits n (m ||| (1 <<< i))) a' w) (hi : ops[i]? = some oi := by rfl) (hc : anyB md ops (bits n m) (bits n (m ||| (1 <<< i))) i = true := by kernel_rfl)
  (hQ : ∀ c a w, Q (.panic c) (a.put (some d) v) w → Q (.panic c) a w := by exact fun _ _ _ h => h) (hy : Yields P ops oi v a := by exact Or.inl ⟨by rfl, by intro w'; go_simp; with_reducible rfl⟩) (hN : oi.dst = some d := by rfl) (ha : a.put (some d) v = a' := by simp only [putW]; rfl) : wpAnyLast P md ops Q S ds (fuel + 1) (bits n m) a w := pure_ (bits n (m ||| (1 <<< i))) hi hN hc (by rw [hN]; exact hQ) hy ha h
theorem t1_ (hS : S w) (h : wpAnyLast P md ops Q S ds fuel (bits n (m ||| (1 <<< i))) a' w) (hi : ops[i]? = some oi := by rfl) (hc : takeB md ops ds (bits n m) (bits n (m ||| (1 <<< i))) i = true := by kernel_rfl)
  (hQ : ∀ c a w, Q (.panic c) (a.put (some d) v) w → Q (.panic c) a w := by exact fun _ _ _ h => h) (hy : YieldsIf P ops S oi v a := by exact Or.inl ⟨by rfl, by rintro w' s0; go_simp; with_reducible rfl⟩) (hN : oi.dst = some d := by rfl) (ha : a.put (some d) v = a' := by simp only [putW]; rfl) : wpAnyLast P md ops Q S ds (fuel + 1) (bits n m) a w := take_ (bits n (m ||| (1 <<< i))) hi hN hc (by rw [hN]; exact hQ) hy hS ha h
theorem t2_ (hS : S w) (h : wpAnyLast P md ops Q S ds fuel (bits n (m ||| (1 <<< i))) a' w) (hi : ops[i]? = some oi := by rfl) (hc : takeB md ops ds (bits n m) (bits n (m ||| (1 <<< i))) i = true := by kernel_rfl)
  (hQ : ∀ c a w, Q (.panic c) (a.put (some d) v) w → Q (.panic c) a w := by exact fun _ _ _ h => h) (hy : YieldsIf P ops S oi v a := by exact Or.inl ⟨by rfl, by rintro w' ⟨s0, s1⟩; go_simp; with_reducible rfl⟩) (hN : oi.dst = some d := by rfl) (ha : a.put (some d) v = a' := by simp only [putW]; rfl) : wpAnyLast P md ops Q S ds (fuel + 1) (bits n m) a w := take_ (bits n (m ||| (1 <<< i))) hi hN hc (by rw [hN]; exact hQ) hy hS ha h
theorem t3_ (hS : S w) (h : wpAnyLast P md ops Q S ds fuel (bits n (m ||| (1 <<< i))) a' w) (hi : ops[i]? = some oi := by rfl) (hc : takeB md ops ds (bits n m) (bits n (m ||| (1 <<< i))) i = true := by kernel_rfl)
  (hQ : ∀ c a w, Q (.panic c) (a.put (some d) v) w → Q (.panic c) a w := by exact fun _ _ _ h => h) (hy : YieldsIf P ops S oi v a := by exact Or.inl ⟨by rfl, by rintro w' ⟨s0, s1, s2⟩; go_simp; with_reducible rfl⟩) (hN : oi.dst = some d := by rfl) (ha : a.put (some d) v = a' := by simp only [putW]; rfl) : wpAnyLast P md ops Q S ds (fuel + 1) (bits n m) a w := take_ (bits n (m ||| (1 <<< i))) hi hN hc (by rw [hN]; exact hQ) hy hS ha h
theorem t4_ (hS : S w) (h : wpAnyLast P md ops Q S ds fuel (bits n (m ||| (1 <<< i))) a' w) (hi : ops[i]? = some oi := by rfl) (hc : takeB md ops ds (bits n m) (bits n (m ||| (1 <<< i))) i = true := by kernel_rfl)
  (hQ : ∀ c a w, Q (.panic c) (a.put (some d) v) w → Q (.panic c) a w := by exact fun _ _ _ h => h) (hy : YieldsIf P ops S oi v a := by exact Or.inl ⟨by rfl, by rintro w' ⟨s0, s1, s2, s3⟩; go_simp; with_reducible rfl⟩) (hN : oi.dst = some d := by rfl) (ha : a.put (some d) v = a' := by simp only [putW]; rfl) : wpAnyLast P md ops Q S ds (fuel + 1) (bits n m) a w := take_ (bits n (m ||| (1 <<< i))) hi hN hc (by rw [hN]; exact hQ) hy hS ha h
theorem t5_ (hS : S w) (h : wpAnyLast P md ops Q S ds fuel (bits n (m ||| (1 <<< i))) a' w) (hi : ops[i]? = some oi := by rfl) (hc : takeB md ops ds (bits n m) (bits n (m ||| (1 <<< i))) i = true := by kernel_rfl)
  (hQ : ∀ c a w, Q (.panic c) (a.put (some d) v) w → Q (.panic c) a w := by exact fun _ _ _ h => h) (hy : YieldsIf P ops S oi v a := by exact Or.inl ⟨by rfl, by rintro w' ⟨s0, s1, s2, s3, s4⟩; go_simp; with_reducible rfl⟩) (hN : oi.dst = some d := by rfl) (ha : a.put (some d) v = a' := by simp only [putW]; rfl) : wpAnyLast P md ops Q S ds (fuel + 1) (bits n m) a w := take_ (bits n (m ||| (1 <<< i))) hi hN hc (by rw [hN]; exact hQ) hy hS ha h
theorem t6_ (hS : S w) (h : wpAnyLast P md ops Q S ds fuel (bits n (m ||| (1 <<< i))) a' w) (hi : ops[i]? = some oi := by rfl) (hc : takeB md ops ds (bits n m) (bits n (m ||| (1 <<< i))) i = true := by kernel_rfl)
  (hQ : ∀ c a w, Q (.panic c) (a.put (some d) v) w → Q (.panic c) a w := by exact fun _ _ _ h => h) (hy : YieldsIf P ops S oi v a := by exact Or.inl ⟨by rfl, by rintro w' ⟨s0, s1, s2, s3, s4, s5⟩; go_simp; with_reducible rfl⟩) (hN : oi.dst = some d := by rfl) (ha : a.put (some d) v = a' := by simp only [putW]; rfl) : wpAnyLast P md ops Q S ds (fuel + 1) (bits n m) a w := take_ (bits n (m ||| (1 <<< i))) hi hN hc (by rw [hN]; exact hQ) hy hS ha h
theorem q_ {T} (HT : Aside0 (rtab md ops = T)) (h : wpAnyLast P md ops Q S ds fuel (bits n (m ||| (1 <<< i))) a' w) (hi : ops[i]? = some oi := by rfl) (hc : anyT T (bits n m).toList (bits n (m ||| (1 <<< i))).toList i = true := by kernel_rfl)
  (hQ : ∀ c a w, Q (.panic c) (a.put (some d) v) w → Q (.panic c) a w := by exact fun _ _ _ h => h) (hy : Yields P ops oi v a := by exact Or.inl ⟨by rfl, by intro w'; go_simp; with_reducible rfl⟩) (hN : oi.dst = some d := by rfl) (ha : a.put (some d) v = a' := by simp only [putW]; rfl) : wpAnyLast P md ops Q S ds (fuel + 1) (bits n m) a w := p_ i d h hi (any_of HT.out hc) hQ hy hN ha
theorem r2_ {T} {B : List Nat} (HT : Aside0 (rtab md ops = T)) (HB : Aside0 (waitsOk T.2 B = true)) (hS : S w) (h : wpAnyLast P md ops Q S ds fuel (bits n (m ||| (1 <<< i))) a' w) (hi : ops[i]? = some oi := by rfl) (hc : takeW T B ds (bits n m).toList (bits n (m ||| (1 <<< i))).toList i = true := by kernel_rfl)
  (hQ : ∀ c a w, Q (.panic c) (a.put (some d) v) w → Q (.panic c) a w := by exact fun _ _ _ h => h) (hy : YieldsIf P ops S oi v a := by exact Or.inl ⟨by rfl, by rintro w' ⟨s0, s1⟩; go_simp; with_reducible rfl⟩) (hN : oi.dst = some d := by rfl) (ha : a.put (some d) v = a' := by simp only [putW]; rfl) : wpAnyLast P md ops Q S ds (fuel + 1) (bits n m) a w := take_ (bits n (m ||| (1 <<< i))) hi hN (take_ofW HT.out HB.out hc) (by rw [hN]; exact hQ) hy hS ha h
theorem r3_ {T} {B : List Nat} (HT : Aside0 (rtab md ops = T)) (HB : Aside0 (waitsOk T.2 B = true)) (hS : S w) (h : wpAnyLast P md ops Q S ds fuel (bits n (m ||| (1 <<< i))) a' w) (hi : ops[i]? = some oi := by rfl) (hc : takeW T B ds (bits n m).toList (bits n (m ||| (1 <<< i))).toList i = true := by kernel_rfl)
  (hQ : ∀ c a w, Q (.panic c) (a.put (some d) v) w → Q (.panic c) a w := by exact fun _ _ _ h => h) (hy : YieldsIf P ops S oi v a := by exact Or.inl ⟨by rfl, by rintro w' ⟨s0, s1, s2⟩; go_simp; with_reducible rfl⟩) (hN : oi.dst = some d := by rfl) (ha : a.put (some d) v = a' := by simp only [putW]; rfl) : wpAnyLast P md ops Q S ds (fuel + 1) (bits n m) a w := take_ (bits n (m ||| (1 <<< i))) hi hN (take_ofW HT.out HB.out hc) (by rw [hN]; exact hQ) hy hS ha h
theorem o_ (h : ∀ K : Act → World → Prop, Shut (∀ a' w', S w' → (S w' → wpAnyLast P md ops Q S ds fuel (bits n (m ||| (1 <<< i))) a' w') → K a' w') → if Region.wanted oi (yielded ops a.tmps) = true then Oper.wp P oi a w K Q else K (a.put (some d) undef) w)
  (hi : ops[i]? = some oi := by rfl) (hN : oi.dst = some d := by rfl) (hc : readyB md ops (bits n m) (bits n (m ||| (1 <<< i))) i = true := by kernel_rfl) (hd : i ∉ ds := by decide) : wpAnyLast P md ops Q S ds (fuel + 1) (bits n m) a w := one_ (bits n (m ||| (1 <<< i))) hi hN hc hd h
theorem l_ (h : ∀ K : Act → World → Prop, Shut (∀ a' w', wpAnyLast P md ops Q S ds fuel (bits n (m ||| (1 <<< i))) a' w' → K a' w') → if Region.wanted oi (yielded ops a.tmps) = true then Oper.wp P oi a w K Q else K (a.put none undef) w)
  (hi : ops[i]? = some oi := by rfl) (hN : oi.dst = none := by rfl) (hc : readyB md ops (bits n m) (bits n (m ||| (1 <<< i))) i = true := by kernel_rfl) (hd : i ∈ ds := by decide) : wpAnyLast P md ops Q S ds (fuel + 1) (bits n m) a w := last_ (bits n (m ||| (1 <<< i))) hi hN hc hd h
theorem ld_ (h : ∀ K : Act → World → Prop, Shut (∀ a' w', wpAnyLast P md ops Q S ds fuel (bits n (m ||| (1 <<< i))) a' w' → K a' w') → if Region.wanted oi (yielded ops a.tmps) = true then Oper.wp P oi a w K Q else K (a.put (some d) undef) w)
  (hi : ops[i]? = some oi := by rfl) (hN : oi.dst = some d := by rfl) (hc : readyB md ops (bits n m) (bits n (m ||| (1 <<< i))) i = true := by kernel_rfl) (hd : i ∈ ds := by decide) : wpAnyLast P md ops Q S ds (fuel + 1) (bits n m) a w := last_ (bits n (m ||| (1 <<< i))) hi hN hc hd h
end
theorem n_ (d : Nat) {fuel : Nat} {l : Array Bool} {a a0 a' : Act} {v : Value} {w : World} (h : wpAnyLast P md ops Q S ds fuel l a' w) (hd : a = Act.put a0 (some d) v := by rfl) (ha : Act.put a0 (some d) v = a' := by simp only [putW]; rfl) : wpAnyLast P md ops Q S ds fuel l a w := norm_ (hd.trans ha) h
theorem d_ {n : Nat} {l : Array Bool} {a : Act} {w : World} (h : Q .normal a w) (hr : (Region.ready md ops l == []) = true := by kernel_rfl) : wpAnyLast P md ops Q S ds n l a w := done_ hr h
end
def codeL : Code → Code
 | .seq a _ => a
 | c => c
def codeR : Code → Code
 | .seq _ b => b
 | c => c
def regOps : Code → Array Oper
 | .region _ ops _ => ops
 | _ => #[]
section
variable {P : Program} {ops : Array Oper} {Q : Exit → Act → World → Prop} {md : Region.Mode} {S : World → Prop} {ds : List Nat}
theorem ready_ {rs : List Nat} {fuel : Nat} {l : Array Bool} {a : Act} {w : World} (hr : (Region.ready md ops l == rs) = true) (hne : rs ≠ []) (h : AllReadyL P md ops Q S ds fuel l a w rs) : wpAnyLast P md ops Q S ds (fuel + 1) l a w := wpAnyLast_ready (by simpa using hr) hne h
theorem more_ {i : Nat} {N : Option Tmp} {oi : Oper} {fuel : Nat} {l : Array Bool} {a : Act} {w : World} {rs : List Nat} (l' : Array Bool) (hi : ops[i]? = some oi) (hN : oi.dst = N) (hl : (l.setIfInBounds i true == l') = true) (hd : i ∉ ds)
  (h : ∀ K : Act → World → Prop, Shut (∀ a' w', S w' → (S w' → wpAnyLast P md ops Q S ds fuel l' a' w') → K a' w') → if Region.wanted oi (yielded ops a.tmps) = true then Oper.wp P oi a w K Q else K (a.put N undef) w)
  (hs : AllReadyL P md ops Q S ds fuel l a w rs) : AllReadyL P md ops Q S ds fuel l a w (i :: rs) := by
 subst hN
 have hl' := beq_iff_eq.1 hl
 subst hl'
 exact AllReadyL.cons hi hd (fun K hK => h K hK) hs
theorem m_ (i d : Nat) {n m fuel : Nat} {oi : Oper} {a : Act} {w : World} {rs : List Nat}
  (h : ∀ K : Act → World → Prop, Shut (∀ a' w', S w' → (S w' → wpAnyLast P md ops Q S ds fuel (bits n (m ||| (1 <<< i))) a' w') → K a' w') → if Region.wanted oi (yielded ops a.tmps) = true then Oper.wp P oi a w K Q else K (a.put (some d) undef) w)
  (hs : AllReadyL P md ops Q S ds fuel (bits n m) a w rs) (hi : ops[i]? = some oi := by rfl) (hN : oi.dst = some d := by rfl) (hl : ((bits n m).setIfInBounds i true == bits n (m ||| (1 <<< i))) = true := by kernel_rfl) (hd : i ∉ ds := by decide) : AllReadyL P md ops Q S ds fuel (bits n m) a w (i :: rs) := more_ (bits n (m ||| (1 <<< i))) hi hN hl hd h hs
end
/-! ### 1. Lists of keys and elements -/
section
variable {κ ε : Type} [DecidableEq κ]
def midx : List (κ × ε) → κ → Nat → Option (Nat × ε)
 | [], _, _ => none
 | p :: r, k, i => if p.1 = k then some (i, p.2) else midx r k (i + 1)
def mget (m : List (κ × ε)) (k : κ) : Option ε := (midx m k 0).map Prod.snd
def mput : List (κ × ε) → κ → ε → List (κ × ε)
 | [], k, v => [(k, v)]
 | p :: r, k, v => if p.1 = k then (k, v) :: r else p :: mput r k v
theorem midx_shift (m : List (κ × ε)) (k : κ) : ∀ i j, (midx m k i).map Prod.snd = (midx m k j).map Prod.snd := by
 induction m with
 | nil => intro i j; rfl
 | cons p r ih =>
  intro i j
  unfold midx
  split
  ·rfl
  ·exact ih _ _
theorem mget_nil (k : κ) : mget ([] : List (κ × ε)) k = none := rfl
theorem mget_cons (p : κ × ε) (r : List (κ × ε)) (k : κ) : mget (p :: r) k = if p.1 = k then some p.2 else mget r k := by
 unfold mget
 conv => lhs; unfold midx
 split
 ·rfl
 ·exact midx_shift r k _ _
theorem mget_mput (m : List (κ × ε)) (k k' : κ) (v : ε) : mget (mput m k v) k' = if k = k' then some v else mget m k' := by
 induction m with
 | nil => simp [mput, mget_cons, mget_nil]
 | cons p r ih =>
  unfold mput
  by_cases h : p.1 = k
  ·rw [if_pos h, mget_cons, mget_cons, h]
   by_cases h2 : k = k' <;> simp [h2]
  ·rw [if_neg h, mget_cons, mget_cons, ih]
   by_cases h2 : p.1 = k'
   ·have : ¬ k = k' := fun e => h (h2.trans e.symm)
    simp [h2, this]
   ·simp [h2]
end
/-! ### 2. A map's block -/
def MapIs {κ ε : Type} (encK : κ → Value) (encE : ε → Value) (w : World) (b : Nat) (m : List (κ × ε)) : Prop :=
 ∃ es clock, w.heap[b]? = some (.map es clock) ∧ es.toList.map (fun x => (x.key, x.val)) = m.map (fun p => (encK p.1, encE p.2)) ∧ (∀ x ∈ es.toList, x.born < clock) ∧ (es.toList.map (·.born)).Nodup
structure KeyKind {κ : Type} [DecidableEq κ] (P : Program) (kt : TypeId) (encK : κ → Value) : Prop where
 find : ∀ {ε : Type} (encE : ε → Value) (k : κ) (es : List MapEntry) (m : List (κ × ε)) (w : World), es.map (fun x => (x.key, x.val)) = m.map (fun p => (encK p.1, encE p.2)) →
  (Instr.findKey kt (encK k) es).run P w = .ok ((midx m k 0).map fun q => (q.1, encE q.2)) w
 check : ∀ (e : Bool) (k : κ) (w : World), (Instr.checkKey e 10000 kt (encK k)).run P w = .ok () w
 same : ∀ (k : κ), Instr.sameBits 10000 (encK k) (encK k) = true
 inj : ∀ k k' : κ, encK k = encK k' → k = k'
theorem findNow_int {ε : Type} (encE : ε → Value) (k : Int) : ∀ (es : List MapEntry) (m : List (Int × ε)) (i : Nat), es.map (fun x => (x.key, x.val)) = m.map (fun p => (Value.int .i64 p.1, encE p.2)) →
  Instr.findNow (.int .i64) (.int .i64 k) es i = some ((midx m k i).map fun q => (q.1, encE q.2))
 | [], [], i, _ => rfl
 | [], p :: r, i, h => by simp at h
 | x :: es, [], i, h => by simp at h
 | x :: es, p :: r, i, h => by
  simp only [List.map_cons, List.cons.injEq, Prod.mk.injEq] at h
  obtain ⟨⟨hk, hv⟩, h⟩ := h
  unfold Instr.findNow midx
  rw [hk, hv]
  by_cases he : p.1 = k
  ·have : (k == p.1) = true := by simp [he]
   simp [Instr.sameNow, this, he]
  ·have : (k == p.1) = false := by simp; exact fun e => he e.symm
   simp only [Instr.sameNow, if_true, this]
   rw [if_neg he]
   exact findNow_int encE k es r (i + 1) h
theorem intKey {P : Program} {kt : TypeId} (h : P.underlying kt = some (.int .i64)) : KeyKind P kt (Value.int .i64) where
 find := by
  intro ε encE k es m w he
  unfold Instr.findKey
  simp [run_underlying h, findNow_int encE k es m 0 he]
 check := by
  intro e k w
  unfold Instr.checkKey
  simp [run_underlying h]
 same := by intro k; simp [Instr.sameBits]
 inj := by intro k k' h; injection h
section
variable {κ ε : Type} {encK : κ → Value} {encE : ε → Value} {w w1 : World} {b : Nat} {m : List (κ × ε)}
theorem MapIs.lt (h : MapIs encK encE w b m) : b < w.heap.size := by
 obtain ⟨es, clock, hb, _⟩ := h
 exact (Array.getElem?_eq_some_iff.1 hb).1
theorem MapIs.keep (h : MapIs encK encE w b m) (hk : w1.heap[b]? = w.heap[b]?) : MapIs encK encE w1 b m := by
 obtain ⟨es, clock, hb, r⟩ := h
 exact ⟨es, clock, hk.trans hb, r⟩
theorem MapIs.below (h : MapIs encK encE w b m) (hb : Below w.heap.size w w1) : MapIs encK encE w1 b m := h.keep (hb.block b h.lt)
theorem MapIs.alloc (h : MapIs encK encE w b m) (o : Obj) : MapIs encK encE (w.alloc o) b m := h.below ((Below.refl _ _).alloc (Nat.le_refl _) o)
theorem MapIs.drewN (h : MapIs encK encE w b m) (n : Nat) : MapIs encK encE (w.drewN n) b m := h
theorem MapIs.drew (h : MapIs encK encE w b m) : MapIs encK encE w.drew b m := h
theorem MapIs.grown (h : MapIs encK encE w b m) {row : Option Nat} (hg : w.grownBy w1 row) (hne : some b ≠ row) : MapIs encK encE w1 b m := h.keep (hg.block b h.lt hne)
theorem MapIs.setCell (h : MapIs encK encE w b m) (p : Addr) (v : Value) : MapIs encK encE (w.setCell p v) b m := by
 obtain ⟨es, clock, hb, r⟩ := h
 refine ⟨es, clock, ?_, r⟩
 by_cases hp : p.block = b
 ·subst hp
  simp [World.setCell, Array.getElem?_modify, hb]
 ·rw [Below.heap_setCell w p v b (fun e => hp e.symm)]
  exact hb
theorem MapIs.made (w : World) : MapIs encK encE (w.alloc (.map #[] 0)) w.heap.size [] := ⟨#[], 0, heap_alloc_new w _, rfl, by simp, by simp⟩
theorem MapIs.set (h : MapIs encK encE w b m) (es : Array MapEntry) (clock : Nat) {m' : List (κ × ε)} (hm : es.toList.map (fun x => (x.key, x.val)) = m'.map (fun p => (encK p.1, encE p.2))) (hb : ∀ x ∈ es.toList, x.born < clock) (hn : (es.toList.map (·.born)).Nodup) :
  MapIs encK encE { w with heap := w.heap.setIfInBounds b (.map es clock) } b m' ∧ w.grownBy { w with heap := w.heap.setIfInBounds b (.map es clock) } (some b) := by
 have hlt := h.lt
 refine ⟨⟨es, clock, ?_, hm, hb, hn⟩, rfl, rfl, rfl, by simp, fun k hk hne => ?_⟩
 ·simp [Array.getElem?_setIfInBounds, hlt]
 ·have : b ≠ k := fun e => hne (by rw [e])
  simp [Array.getElem?_setIfInBounds, this]
end
section
variable {κ ε : Type} [DecidableEq κ]
theorem midx_lt {k : κ} : ∀ (m : List (κ × ε)) (i : Nat) {j : Nat} {v : ε}, midx m k i = some (j, v) → i ≤ j ∧ ∃ h : j - i < m.length, (m[j - i]).1 = k
 | [], i, j, v, h => by simp [midx] at h
 | p :: r, i, j, v, h => by
  unfold midx at h
  split at h
  ·rename_i hp
   simp only [Option.some.injEq, Prod.mk.injEq] at h
   obtain ⟨rfl, _⟩ := h
   exact ⟨Nat.le_refl _, by simp, by simp [hp]⟩
  ·obtain ⟨h1, h2, h3⟩ := midx_lt r (i + 1) h
   refine ⟨by omega, by simp; omega, ?_⟩
   obtain ⟨d, hd⟩ : ∃ d, j - i = d + 1 := ⟨j - (i + 1), by omega⟩
   have hd' : j - (i + 1) = d := by omega
   simp only [hd, List.getElem_cons_succ]
   simp only [hd'] at h3
   exact h3
theorem mput_some {k : κ} {v' : ε} : ∀ (m : List (κ × ε)) (i : Nat) {j : Nat} {v : ε}, midx m k i = some (j, v) → mput m k v' = m.set (j - i) (k, v')
 | [], i, j, v, h => by simp [midx] at h
 | p :: r, i, j, v, h => by
  unfold midx at h
  unfold mput
  split at h
  ·rename_i hp
   simp only [Option.some.injEq, Prod.mk.injEq] at h
   obtain ⟨rfl, _⟩ := h
   simp [hp]
  ·rename_i hp
   obtain ⟨h1, _⟩ := midx_lt r (i + 1) h
   rw [if_neg hp, mput_some r (i + 1) h]
   obtain ⟨d, hd⟩ : ∃ d, j - i = d + 1 := ⟨j - (i + 1), by omega⟩
   have hd' : j - (i + 1) = d := by omega
   rw [hd, hd']
   rfl
theorem mput_none {k : κ} {v' : ε} : ∀ (m : List (κ × ε)) (i : Nat), midx m k i = none → mput m k v' = m ++ [(k, v')]
 | [], i, h => rfl
 | p :: r, i, h => by
  unfold midx at h
  unfold mput
  split at h
  ·cases h
  ·rename_i hp
   rw [if_neg hp, mput_none r (i + 1) h]
   rfl
end
/-! ### 3. The machine's operations -/
section
variable {κ ε : Type} [DecidableEq κ] {encK : κ → Value} {encE : ε → Value} {P : Program} {w : World} {b : Nat} {m : List (κ × ε)} {t kt et : TypeId}
theorem run_lookup_map (K : KeyKind P kt encK) (ht : P.underlying t = some (.map kt et)) (h : MapIs encK encE w b m) (z : ε) (hz : ∀ w, (zeroValue et).run P w = .ok (encE z) w) (k : κ) (c : Bool) :
  (Instr.lookup t (.map (some b)) (encK k) c).run P w = .ok (if c then .tuple #[encE ((mget m k).getD z), .bool (mget m k).isSome] else encE ((mget m k).getD z)) w := by
 obtain ⟨es, clock, hb, hm, _⟩ := h
 have hf := K.find encE k es.toList m w hm
 have hc := K.check es.isEmpty k w
 unfold Instr.lookup
 simp only [Sem.run_bind, run_underlying ht, Result.andThen_ok]
 have hg : ∀ w0 : World, w0.heap[b]? = some (.map es clock) → (getObj b).run P w0 = .ok (.map es clock) w0 := by
  intro w0 h0
  simp [getObj, Sem.run, h0]
 simp only [hg w hb, Result.andThen_ok, Sem.run_pure, hc, hf]
 unfold mget
 cases hi : midx m k 0 with
 | none => cases c <;> simp [hz, hc, hf, hi]
 | some q => cases c <;> simp [hc, hf, hi]
theorem run_mapUpdate_map (K : KeyKind P kt encK) (ht : P.underlying t = some (.map kt et)) (h : MapIs encK encE w b m) (k : κ) (v : ε) :
  ∃ w1, (Instr.mapUpdate t (.map (some b)) (encK k) (encE v)).run P w = .ok () w1 ∧ MapIs encK encE w1 b (mput m k v) ∧ w.grownBy w1 (some b) := by
 have H := h
 obtain ⟨es, clock, hb, hm, hborn, hnd⟩ := h
 have hf := K.find encE k es.toList m w hm
 have hc := K.check false k w
 have hlen : es.size = m.length := by
  have := congrArg List.length hm
  simpa using this
 have hg : (getObj b).run P w = .ok (.map es clock) w := by simp [getObj, Sem.run, hb]
 have hs : ∀ o, (setObj b o).run P w = .ok () { w with heap := w.heap.setIfInBounds b o } := by
  intro o
  simp [setObj, Sem.run, hb]
 unfold Instr.mapUpdate
 simp only [Sem.run_bind, run_underlying ht, Result.andThen_ok, hg, hc, hf]
 cases hi : midx m k 0 with
 | none =>
  simp only [Option.map_none, hs]
  refine ⟨_, rfl, H.set _ _ ?_ ?_ ?_⟩
  ·rw [mput_none m 0 hi]
   simp [hm]
  ·intro x hx
   simp only [Array.toList_push, List.mem_append, List.mem_singleton] at hx
   rcases hx with hx | rfl
   ·have := hborn x hx
    omega
   ·simp
  ·simp only [Array.toList_push, List.map_append, List.map_cons, List.map_nil]
   rw [List.nodup_append]
   refine ⟨hnd, by simp, ?_⟩
   intro a ha c hc2
   simp only [List.mem_singleton] at hc2
   obtain ⟨x, hx, rfl⟩ := List.mem_map.1 ha
   have := hborn x hx
   omega
 | some q =>
  obtain ⟨j, v0⟩ := q
  obtain ⟨_, hjl, hjk⟩ := midx_lt m 0 hi
  have hset := mput_some (v' := v) m 0 hi
  simp only [Nat.sub_zero] at hjl hjk hset
  have hje : j < es.size := by omega
  have hkey : (es[j]).key = encK k := by
   have h1 : (es.toList.map (fun x => (x.key, x.val)))[j]? = (m.map (fun p => (encK p.1, encE p.2)))[j]? := by rw [hm]
   rw [List.getElem?_map, List.getElem?_map, List.getElem?_eq_getElem (by simpa using hje), List.getElem?_eq_getElem hjl] at h1
   simp only [Option.map_some, Option.some.injEq, Prod.mk.injEq] at h1
   rw [Array.getElem_toList] at h1
   rw [h1.1, hjk]
  have hks : (Instr.keyThatStays (((es[j]?).map (·.key)).getD (encK k)) (encK k)).run P w = .ok (encK k) w := by
   rw [Array.getElem?_eq_getElem hje]
   simp only [Option.map_some, Option.getD_some, hkey]
   unfold Instr.keyThatStays
   rw [if_pos (K.same k)]
   rfl
  simp only [Option.map_some]
  have hmod : (es.modify j fun e => { e with key := encK k, val := encE v }).toList = es.toList.modify j fun e => { e with key := encK k, val := encE v } := by simp
  refine ⟨_, by rw [Sem.run_bind, hks, Result.andThen_ok, hs], H.set _ _ ?_ ?_ ?_⟩
  ·rw [hset, hmod, List.map_set, ← hm]
   apply List.ext_getElem?
   intro i
   rw [List.getElem?_map, List.getElem?_modify, List.getElem?_set, List.getElem?_map]
   by_cases hij : j = i
   ·subst hij
    simp [List.getElem?_eq_getElem (show j < es.toList.length by simpa using hje), hje]
   ·simp [hij]
  ·intro x hx
   rw [hmod] at hx
   obtain ⟨i, hi', rfl⟩ := List.mem_iff_getElem.1 hx
   rw [List.getElem_modify]
   have hil : i < es.toList.length := by simpa using hi'
   have hq := hborn _ (List.getElem_mem hil)
   split <;> exact hq
  ·rw [hmod]
   have : (es.toList.modify j fun e => { e with key := encK k, val := encE v }).map (·.born) = es.toList.map (·.born) := by
    apply List.ext_getElem?
    intro i
    rw [List.getElem?_map, List.getElem?_modify, List.getElem?_map]
    by_cases hij : j = i
    ·subst hij
     cases h0 : es.toList[j]? <;> simp
    ·simp [hij]
   rw [this]
   exact hnd
end
section
variable {κ ε : Type} [DecidableEq κ] {encK : κ → Value} {encE : ε → Value} {P : Program} {w : World} {b : Nat} {m : List (κ × ε)} {t kt et : TypeId} {ops : Array Oper} {rest : List Oper} {o : Oper} {a : Act} {Q : Exit → Act → World → Prop}
theorem wp_lookup_map (K : KeyKind P kt encK) (ht : P.underlying t = some (.map kt et)) (z : ε) (hz : ∀ w, (zeroValue et).run P w = .ok (encE z) w) (hg : o.guard = none) (mo x : Operand) (c : Bool) (hop : o.op = Op.lookup t mo x c)
  (h : MapIs encK encE w b m) (k : κ) (hm : a.eval mo = .map (some b)) (hx : a.eval x = encK k) (v : Value) (hv : (if c then .tuple #[encE ((mget m k).getD z), .bool (mget m k).isSome] else encE ((mget m k).getD z)) = v)
  (hK : wpList P ops Q rest (a.put o.dst v) w) :
  wpList P ops Q (o :: rest) a w := by
 refine wpList_plain hg fun K' hK' => ?_
 have hrun := run_lookup_map K ht h z hz k c
 rw [hv] at hrun
 unfold Oper.wp
 simp only [execOp, hop, hm, hx, Sem.run_bind, hrun, Result.andThen_ok, Sem.run_pure]
 exact hK' _ _ hK
theorem wp_mapUpdate_map (K : KeyKind P kt encK) (ht : P.underlying t = some (.map kt et)) (hg : o.guard = none) (mo x vo : Operand) (hop : o.op = Op.mapUpdate t mo x vo) (hd : o.dst = none)
  (h : MapIs encK encE w b m) (k : κ) (v : ε) (hm : a.eval mo = .map (some b)) (hx : a.eval x = encK k) (hv : a.eval vo = encE v)
  (hK : ∀ w1, MapIs encK encE w1 b (mput m k v) → w.grownBy w1 (some b) → wpList P ops Q rest a w1) :
  wpList P ops Q (o :: rest) a w := by
 refine wpList_plain hg fun K' hK' => ?_
 obtain ⟨w1, hrun, h1, h2⟩ := run_mapUpdate_map K ht h k v
 unfold Oper.wp
 simp only [execOp, hop, hm, hx, hv, Sem.run_bind, hrun, Result.andThen_ok, Sem.run_pure]
 have := hK w1 h1 h2
 exact hK' _ _ (by rw [hd]; exact this)
end
open Go.ChangeMaps (setBlock)
set_option linter.unusedSectionVars false
section
variable {κ ε : Type} [DecidableEq κ]
end
/-! ### The machine's operations -/
def EntryIs {κ ε : Type} [DecidableEq κ] (encK : κ → Value) (encE : ε → Value) (w : World) (b : Nat) (m : List (κ × ε)) (k : κ) (stamp : Nat) : Prop :=
 ∃ es clock, w.heap[b]? = some (.map es clock) ∧ es.toList.map (fun x => (x.key, x.val)) = m.map (fun p => (encK p.1, encE p.2)) ∧ (∀ x ∈ es.toList, x.born < clock) ∧ (es.toList.map (·.born)).Nodup ∧
  ∃ j v0, midx m k 0 = some (j, v0) ∧ (es[j]?).map (·.born) = some stamp
section
variable {κ ε : Type} [DecidableEq κ] {encK : κ → Value} {encE : ε → Value} {P : Program} {w w1 : World} {b : Nat} {m : List (κ × ε)} {t kt et : TypeId}
theorem EntryIs.map {k : κ} {stamp : Nat} (h : EntryIs encK encE w b m k stamp) : MapIs encK encE w b m := by
 obtain ⟨es, clock, h1, h2, h3, h4, _⟩ := h
 exact ⟨es, clock, h1, h2, h3, h4⟩
theorem EntryIs.keep {k : κ} {stamp : Nat} (h : EntryIs encK encE w b m k stamp) (hk : w1.heap[b]? = w.heap[b]?) : EntryIs encK encE w1 b m k stamp := by
 obtain ⟨es, clock, hb, r⟩ := h
 exact ⟨es, clock, hk.trans hb, r⟩
theorem EntryIs.grown {k : κ} {stamp : Nat} (h : EntryIs encK encE w b m k stamp) {row : Option Nat} (hg : w.grownBy w1 row) (hne : some b ≠ row) : EntryIs encK encE w1 b m k stamp := h.keep (hg.block b h.map.lt hne)
end
/-! ### A loop over a map -/
def RangeIs {κ ε : Type} (encK : κ → Value) (encE : ε → Value) (w : World) (b r : Nat) (m : List (κ × ε)) (is : List Nat) : Prop :=
 ∃ es clock since seen c0, w.heap[b]? = some (.map es clock) ∧ es.toList.map (fun x => (x.key, x.val)) = m.map (fun p => (encK p.1, encE p.2)) ∧ (∀ x ∈ es.toList, x.born < clock) ∧ (es.toList.map (·.born)).Nodup ∧
  w.heap[r]? = some (.mapIter (some b) since seen c0) ∧ (∀ x ∈ es.toList, x.born < since) ∧ since ≤ c0 ∧ since ≤ clock ∧ seen.toList.map some = is.map (fun i => (es[i]?).map (·.born)) ∧ (∀ i ∈ is, i < m.length)
section
variable {κ ε : Type} [DecidableEq κ] {encK : κ → Value} {encE : ε → Value} {P : Program} {w w1 : World} {b r : Nat} {m : List (κ × ε)} {is : List Nat} {t kt et : TypeId}
theorem RangeIs.map (h : RangeIs encK encE w b r m is) : MapIs encK encE w b m := by
 obtain ⟨es, clock, _, _, _, h1, h2, h3, h4, _⟩ := h
 exact ⟨es, clock, h1, h2, h3, h4⟩
theorem RangeIs.keep (h : RangeIs encK encE w b r m is) (hb : w1.heap[b]? = w.heap[b]?) (hr : w1.heap[r]? = w.heap[r]?) : RangeIs encK encE w1 b r m is := by
 obtain ⟨es, clock, since, seen, c0, h1, h2, h3, h4, h5, h6⟩ := h
 exact ⟨es, clock, since, seen, c0, hb.trans h1, h2, h3, h4, hr.trans h5, h6⟩
theorem RangeIs.lt (h : RangeIs encK encE w b r m is) : r < w.heap.size := by
 obtain ⟨es, clock, since, seen, c0, _, _, _, _, h5, _⟩ := h
 exact (Array.getElem?_eq_some_iff.1 h5).1
theorem RangeIs.below (h : RangeIs encK encE w b r m is) (hb : Below w.heap.size w w1) : RangeIs encK encE w1 b r m is := h.keep (hb.block b h.map.lt) (hb.block r h.lt)
theorem RangeIs.drew (h : RangeIs encK encE w b r m is) : RangeIs encK encE w.drew b r m is := h
theorem RangeIs.grown (h : RangeIs encK encE w b r m is) {row : Option Nat} (hg : w.grownBy w1 row) (hb : some b ≠ row) (hr : some r ≠ row) : RangeIs encK encE w1 b r m is := h.keep (hg.block b h.map.lt hb) (hg.block r h.lt hr)
end
section
variable {P : Program} {w w1 : World} {ops : Array Oper} {rest : List Oper} {o : Oper} {a : Act} {Q : Exit → Act → World → Prop}
end
section
variable {κ ε : Type} [DecidableEq κ] {encK : κ → Value} {encE : ε → Value} {P : Program} {w w1 : World} {b r : Nat} {m : List (κ × ε)} {is : List Nat} {t kt et : TypeId} {ops : Array Oper} {rest : List Oper} {o : Oper} {a : Act} {Q : Exit → Act → World → Prop}
end
section
variable {κ ε : Type} [DecidableEq κ] {encK : κ → Value} {encE : ε → Value} {P : Program} {w w1 : World} {b r : Nat} {m : List (κ × ε)} {is : List Nat} {t kt et : TypeId} {ops : Array Oper} {rest : List Oper} {o : Oper} {a : Act} {Q : Exit → Act → World → Prop}
end
section
variable {κ ε : Type} [DecidableEq κ] {encK : κ → Value} {encE : ε → Value} {P : Program} {w w1 : World} {b r : Nat} {m : List (κ × ε)} {t kt et : TypeId} {ops : Array Oper} {o : Oper} {a : Act} {Q : Exit → Act → World → Prop} {Kc : Act → World → Prop} {N : Option Tmp}
end
theorem cell_heap {w w' : World} (h : w'.heap = w.heap) (a : Addr) : w'.cell? a = w.cell? a := by unfold World.cell?; rw [h]
end Go.Proofs.Ytfnophaiamkmpaa.Print
