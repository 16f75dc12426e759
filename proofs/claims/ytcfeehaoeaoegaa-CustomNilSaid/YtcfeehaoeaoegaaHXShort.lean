/- Short names for steps that the printed walks take again and again. -/
import Derived.Test.YtcfeehaoeaoegaaPrint0
namespace Go.Proofs.Ytcfeehaoeaoegaa.Print
open Go.RowKit Go.Proofs.YtcfeehaoeaoegaaW.PrintWords Go.Proofs.YtcfeehaoeaoegaaW.PrintLast Go.Proofs.YtcfeehaoeaoegaaW.PrintMore
set_option linter.unusedVariables false
set_option linter.unusedSimpArgs false

abbrev yT : Bool := true
abbrev yF : Bool := false
theorem byR {p q : Prop} (h : q) (k : q → p := by intro h_; (with_reducible repeat (first | apply Kd.R_alloc | apply Kd.R_drewN | apply Kd.R_drew)); exact h_) : p := k h
theorem byS {p q : Prop} (h : q) (k : q → p := by intro h_; (with_reducible repeat (first | apply Kd.S_alloc | apply Kd.S_drewN | apply Kd.S_drew)); exact h_) : p := k h
theorem byK {p q : Prop} (h : q) (k : q → p := by intro h_; (with_reducible repeat (first | refine blk_drewN ?_ _ | refine blk_drew ?_ | refine blk_alloc ?_ _)); exact h_) : p := k h
theorem byC {p q : Prop} (h : q) (k : q → p := by intro h_; (repeat (first | exact h_ | (with_reducible refine Kd.C_alloc ?_ _) | (with_reducible refine Kd.C_drewN ?_ _) | (with_reducible refine Kd.C_drew ?_)))) : p := k h
theorem byB {p q : Prop} (h : q) (k : q → p := by intro h_; (repeat (first | (with_reducible first | exact h_ | apply below_alloc | apply pw_below_drewN | apply below_drew1) | exact h_))) : p := k h
theorem byB1 {p q q1 : Prop} (h : q) (h1 : q1) (k : q → q1 → p := by intro h_ h1_; (repeat (first | (with_reducible first | exact h_ | apply below_alloc | apply pw_below_drewN | apply below_drew1 | refine below_set ?_ h1_) | exact h_))) : p := k h h1
theorem byB2 {p q q1 q2 : Prop} (h : q) (h1 : q1) (h2 : q2) (k : q → q1 → q2 → p := by intro h_ h1_ h2_; (repeat (first | (with_reducible first | exact h_ | apply below_alloc | apply pw_below_drewN | apply below_drew1 | refine below_set ?_ h1_ | refine below_set ?_ h2_) | exact h_))) : p := k h h1 h2
theorem byL {p : Prop} (k : p := by (try simp only [List.map_toArray, List.map_cons, List.map_nil]); first | done | rfl | (simp only [List.length_drop, List.length_take]; rfl)) : p := k
theorem putW : (∀ (a : Act) (v : Value), a.put none v = a) ∧ (∀ (a : Act) (d : Tmp) (v : Value), a.put (some d) v = { a with tmps := a.tmps.setIfInBounds d v }) ∧ (∀ (α : Type) (xs : List α) (i : Nat) (v : α), xs.toArray.setIfInBounds i v = (xs.set i v).toArray) ∧ (∀ (α : Type) (x : α) (xs : List α) (v : α), (x :: xs).set 0 v = v :: xs) ∧ (∀ (α : Type) (x : α) (xs : List α) (n : Nat) (v : α), (x :: xs).set (n + 1) v = x :: xs.set n v) ∧ (∀ n : Int, IntKind.i64.wrap n = Go.RowKit.wrap64 n) ∧ (∀ n : Int, IntKind.i32.wrap n = Go.RowKit.wrap32 n) :=
  ⟨fun _ _ => rfl, fun _ _ _ => rfl, fun _ _ _ _ => List.setIfInBounds_toArray .., fun _ _ _ _ => rfl, fun _ _ _ _ _ => rfl, i64_w, i32_w⟩
def bits (n m : Nat) : Array Bool := ((List.range n).map m.testBit).toArray
section
variable {P : Program} {ops : Array Oper} {Q : Exit → Act → World → Prop} {md : Region.Mode} {S : World → Prop} {ds : List Nat}
theorem s_ {id n : Nat} {a : Act} {w : World} (S : World → Prop) (ds : List Nat) (hS : S w.drew) (h : S w.drew → wpAnyLast P .any ops Q S ds n (bits n 0) a w.drew) (hn : ops.size = n := by rfl) (hm : P.follows .mixedOrders = true := by kernel_rfl) (hl : Array.replicate n false = bits n 0 := by rfl) : (Code.region id ops true).wp P Q a w := start_ (bits n 0) hm hn hl hS h
section
variable (i d : Nat) {n m fuel : Nat} {oi : Oper} {v : Value} {a a' : Act} {w : World}
theorem p_ (h : wpAnyLast P md ops Q S ds fuel (bits n (m ||| (1 <<< i))) a' w) (hi : ops[i]? = some oi := by rfl) (hc : anyB md ops (bits n m) (bits n (m ||| (1 <<< i))) i = true := by kernel_rfl)
    (hQ : ∀ c a w, Q (.panic c) (a.put (some d) v) w → Q (.panic c) a w := by exact fun _ _ _ h => h) (hy : Yields P ops oi v a := by exact Or.inl ⟨by rfl, by intro w'; go_simp; with_reducible rfl⟩) (hN : oi.dst = some d := by rfl) (ha : a.put (some d) v = a' := by simp only [putW]; rfl) : wpAnyLast P md ops Q S ds (fuel + 1) (bits n m) a w := pure_ (bits n (m ||| (1 <<< i))) hi hN hc (by rw [hN]; exact hQ) hy ha h
theorem t1_ (hS : S w) (h : wpAnyLast P md ops Q S ds fuel (bits n (m ||| (1 <<< i))) a' w) (hi : ops[i]? = some oi := by rfl) (hc : takeB md ops ds (bits n m) (bits n (m ||| (1 <<< i))) i = true := by kernel_rfl)
    (hQ : ∀ c a w, Q (.panic c) (a.put (some d) v) w → Q (.panic c) a w := by exact fun _ _ _ h => h) (hy : YieldsIf P ops S oi v a := by exact Or.inl ⟨by rfl, by rintro w' s0; go_simp; with_reducible rfl⟩) (hN : oi.dst = some d := by rfl) (ha : a.put (some d) v = a' := by simp only [putW]; rfl) : wpAnyLast P md ops Q S ds (fuel + 1) (bits n m) a w := take_ (bits n (m ||| (1 <<< i))) hi hN hc (by rw [hN]; exact hQ) hy hS ha h
theorem t2_ (hS : S w) (h : wpAnyLast P md ops Q S ds fuel (bits n (m ||| (1 <<< i))) a' w) (hi : ops[i]? = some oi := by rfl) (hc : takeB md ops ds (bits n m) (bits n (m ||| (1 <<< i))) i = true := by kernel_rfl)
    (hQ : ∀ c a w, Q (.panic c) (a.put (some d) v) w → Q (.panic c) a w := by exact fun _ _ _ h => h) (hy : YieldsIf P ops S oi v a := by exact Or.inl ⟨by rfl, by rintro w' ⟨s0, s1⟩; go_simp; with_reducible rfl⟩) (hN : oi.dst = some d := by rfl) (ha : a.put (some d) v = a' := by simp only [putW]; rfl) : wpAnyLast P md ops Q S ds (fuel + 1) (bits n m) a w := take_ (bits n (m ||| (1 <<< i))) hi hN hc (by rw [hN]; exact hQ) hy hS ha h
theorem t3_ (hS : S w) (h : wpAnyLast P md ops Q S ds fuel (bits n (m ||| (1 <<< i))) a' w) (hi : ops[i]? = some oi := by rfl) (hc : takeB md ops ds (bits n m) (bits n (m ||| (1 <<< i))) i = true := by kernel_rfl)
    (hQ : ∀ c a w, Q (.panic c) (a.put (some d) v) w → Q (.panic c) a w := by exact fun _ _ _ h => h) (hy : YieldsIf P ops S oi v a := by exact Or.inl ⟨by rfl, by rintro w' ⟨s0, s1, s2⟩; go_simp; with_reducible rfl⟩) (hN : oi.dst = some d := by rfl) (ha : a.put (some d) v = a' := by simp only [putW]; rfl) : wpAnyLast P md ops Q S ds (fuel + 1) (bits n m) a w := take_ (bits n (m ||| (1 <<< i))) hi hN hc (by rw [hN]; exact hQ) hy hS ha h
theorem t4_ (hS : S w) (h : wpAnyLast P md ops Q S ds fuel (bits n (m ||| (1 <<< i))) a' w) (hi : ops[i]? = some oi := by rfl) (hc : takeB md ops ds (bits n m) (bits n (m ||| (1 <<< i))) i = true := by kernel_rfl)
    (hQ : ∀ c a w, Q (.panic c) (a.put (some d) v) w → Q (.panic c) a w := by exact fun _ _ _ h => h) (hy : YieldsIf P ops S oi v a := by exact Or.inl ⟨by rfl, by rintro w' ⟨s0, s1, s2, s3⟩; go_simp; with_reducible rfl⟩) (hN : oi.dst = some d := by rfl) (ha : a.put (some d) v = a' := by simp only [putW]; rfl) : wpAnyLast P md ops Q S ds (fuel + 1) (bits n m) a w := take_ (bits n (m ||| (1 <<< i))) hi hN hc (by rw [hN]; exact hQ) hy hS ha h
theorem o_ (h : ∀ K : Act → World → Prop, Shut (∀ a' w', S w' → (S w' → wpAnyLast P md ops Q S ds fuel (bits n (m ||| (1 <<< i))) a' w') → K a' w') → if Region.wanted oi (yielded ops a.tmps) = true then Oper.wp P oi a w K Q else K (a.put (some d) undef) w)
    (hi : ops[i]? = some oi := by rfl) (hN : oi.dst = some d := by rfl) (hc : readyB md ops (bits n m) (bits n (m ||| (1 <<< i))) i = true := by kernel_rfl) (hd : i ∉ ds := by decide) : wpAnyLast P md ops Q S ds (fuel + 1) (bits n m) a w := one_ (bits n (m ||| (1 <<< i))) hi hN hc hd h
theorem l_ (h : ∀ K : Act → World → Prop, Shut (∀ a' w', wpAnyLast P md ops Q S ds fuel (bits n (m ||| (1 <<< i))) a' w' → K a' w') → if Region.wanted oi (yielded ops a.tmps) = true then Oper.wp P oi a w K Q else K (a.put none undef) w)
    (hi : ops[i]? = some oi := by rfl) (hN : oi.dst = none := by rfl) (hc : readyB md ops (bits n m) (bits n (m ||| (1 <<< i))) i = true := by kernel_rfl) (hd : i ∈ ds := by decide) : wpAnyLast P md ops Q S ds (fuel + 1) (bits n m) a w := last_ (bits n (m ||| (1 <<< i))) hi hN hc hd h
theorem ld_ (h : ∀ K : Act → World → Prop, Shut (∀ a' w', wpAnyLast P md ops Q S ds fuel (bits n (m ||| (1 <<< i))) a' w' → K a' w') → if Region.wanted oi (yielded ops a.tmps) = true then Oper.wp P oi a w K Q else K (a.put (some d) undef) w)
    (hi : ops[i]? = some oi := by rfl) (hN : oi.dst = some d := by rfl) (hc : readyB md ops (bits n m) (bits n (m ||| (1 <<< i))) i = true := by kernel_rfl) (hd : i ∈ ds := by decide) : wpAnyLast P md ops Q S ds (fuel + 1) (bits n m) a w := last_ (bits n (m ||| (1 <<< i))) hi hN hc hd h
end
theorem n_ (d : Nat) {fuel : Nat} {l : Array Bool} {a a0 a' : Act} {v : Value} {w : World} (h : wpAnyLast P md ops Q S ds fuel l a' w) (hd : a = Act.put a0 (some d) v := by rfl) (ha : Act.put a0 (some d) v = a' := by simp only [putW]; rfl) : wpAnyLast P md ops Q S ds fuel l a w := norm_ (hd.trans ha) h
theorem d_ {n : Nat} {l : Array Bool} {a : Act} {w : World} (h : Q .normal a w) (hr : (Region.ready md ops l == []) = true := by kernel_rfl) : wpAnyLast P md ops Q S ds n l a w := done_ hr h
end
end Go.Proofs.Ytcfeehaoeaoegaa.Print
