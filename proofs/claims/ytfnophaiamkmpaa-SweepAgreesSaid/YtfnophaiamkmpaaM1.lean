/- Several texts of this claim in one: HXShort, HRTab, HXOpen. -/
import Derived.Test.YtfnophaiamkmpaaPrint0
import Derived.Test.YtfnophaiamkmpaaM0
import Derived.Test.YtfnophaiamkmpaaV0
import Derived.SizedLaws
import Derived.ChangeArms
import Derived.ChangeSame
import Derived.DataReads
namespace Go.Proofs.Ytfnophaiamkmpaa.Print
open Go.RowKit Go.Proofs.YtfnophaiamkmpaaW.PrintWords Go.Proofs.YtfnophaiamkmpaaW.PrintLast Go.Proofs.YtfnophaiamkmpaaW.PrintMore
set_option linter.unusedVariables false
set_option linter.unusedSimpArgs false
theorem byR {p q : Prop} (h : q) (k : q → p := by intro h_; (with_reducible repeat (first | apply Kd.R_alloc | apply Kd.R_drewN | apply Kd.R_drew)); exact h_) : p := k h
theorem byS {p q : Prop} (h : q) (k : q → p := by intro h_; (with_reducible repeat (first | apply Kd.S_alloc | apply Kd.S_drewN | apply Kd.S_drew)); exact h_) : p := k h
theorem byK {p q : Prop} (h : q) (k : q → p := by intro h_; (with_reducible repeat (first | refine blk_drewN ?_ _ | refine blk_drew ?_ | refine blk_alloc ?_ _)); exact h_) : p := k h
theorem byC {p q : Prop} (h : q) (k : q → p := by intro h_; (repeat (first | exact h_ | (with_reducible refine Kd.C_alloc ?_ _) | (with_reducible refine Kd.C_drewN ?_ _) | (with_reducible refine Kd.C_drew ?_)))) : p := k h
theorem byB {p q : Prop} (h : q) (k : q → p := by intro h_; (repeat (first | (with_reducible first | exact h_ | apply below_alloc | apply pw_below_drewN | apply below_drew1) | exact h_))) : p := k h
theorem byB1 {p q q1 : Prop} (h : q) (h1 : q1) (k : q → q1 → p := by intro h_ h1_; (repeat (first | (with_reducible first | exact h_ | apply below_alloc | apply pw_below_drewN | apply below_drew1 | refine below_set ?_ h1_) | exact h_))) : p := k h h1
theorem byB2 {p q q1 q2 : Prop} (h : q) (h1 : q1) (h2 : q2) (k : q → q1 → q2 → p := by intro h_ h1_ h2_; (repeat (first | (with_reducible first | exact h_ | apply below_alloc | apply pw_below_drewN | apply below_drew1 | refine below_set ?_ h1_ | refine below_set ?_ h2_) | exact h_))) : p := k h h1 h2
theorem byB3 {p q q1 q2 q3 : Prop} (h : q) (h1 : q1) (h2 : q2) (h3 : q3) (k : q → q1 → q2 → q3 → p := by intro h_ h1_ h2_ h3_; (repeat (first | (with_reducible first | exact h_ | apply below_alloc | apply pw_below_drewN | apply below_drew1 | refine below_set ?_ h1_ | refine below_set ?_ h2_ | refine below_set ?_ h3_) | exact h_))) : p := k h h1 h2 h3
theorem odt {p : Prop} [Decidable p] (h : decide p = true := by first | (with_reducible assumption) | assumption) : p := of_decide_eq_true h
theorem byF {p : Prop} (h : p := by first | rfl | (simp; done) | (simp [*]; done)) : p := h
theorem byE {p : Prop} (h : p := by first | rfl | (simp [errW_none, errW_some] <;> rfl) | (simp [*, errW_none, errW_some] <;> rfl)) : p := h
theorem byL {p : Prop} (k : p := by (try simp only [List.map_toArray, List.map_cons, List.map_nil]); first | done | rfl | (simp only [List.length_drop, List.length_take]; rfl)) : p := k
theorem putW : (∀ (a : Act) (v : Value), a.put none v = a) ∧ (∀ (a : Act) (d : Tmp) (v : Value), a.put (some d) v = { a with tmps := a.tmps.setIfInBounds d v }) ∧ (∀ (α : Type) (xs : List α) (i : Nat) (v : α), xs.toArray.setIfInBounds i v = (xs.set i v).toArray) ∧ (∀ (α : Type) (x : α) (xs : List α) (v : α), (x :: xs).set 0 v = v :: xs) ∧ (∀ (α : Type) (x : α) (xs : List α) (n : Nat) (v : α), (x :: xs).set (n + 1) v = x :: xs.set n v) ∧ (∀ n : Int, IntKind.i64.wrap n = Go.RowKit.wrap64 n) ∧ (∀ n : Int, IntKind.i32.wrap n = Go.RowKit.wrap32 n) :=
 ⟨fun _ _ => rfl, fun _ _ _ => rfl, fun _ _ _ _ => List.setIfInBounds_toArray .., fun _ _ _ _ => rfl, fun _ _ _ _ _ => rfl, i64_w, i32_w⟩
def bits (n m : Nat) : Array Bool := ((List.range n).map m.testBit).toArray
section
variable {P : Program} {ops : Array Oper} {Q : Exit → Act → World → Prop} {md : Region.Mode} {S : World → Prop} {ds : List Nat}
theorem s_ {id n : Nat} {a : Act} {w : World} (S : World → Prop) (ds : List Nat) (hS : S w.drew) (h : S w.drew → wpAnyLast P .any ops Q S ds n (bits n 0) a w.drew) (hn : ops.size = n := by rfl) (hm : P.follows .mixedOrders = true := by kernel_rfl) (hl : Array.replicate n false = bits n 0 := by rfl) : (Code.region id ops true).wp P Q a w := start_ (bits n 0) hm hn hl hS h
section
variable (i d : Nat) {n m fuel : Nat} {oi : Oper} {v : Value} {a a' : Act} {w : World}
theorem p_ (h : wpAnyLast P md ops Q S ds fuel (bits n (m ||| (1 <<< i))) a' w) (hi : ops[i]? = some oi := by rfl) (hc : anyB md ops (bits n m) (bits n (m ||| (1 <<< i))) i = true := by kernel_rfl)
  (hQ : ∀ c a w, Q (.panic c) (a.put (some d) v) w → Q (.panic c) a w := by exact fun _ _ _ h => h) (hy : Yields P ops oi v a := by exact Or.inl ⟨by rfl, by intro w'; go_simp; with_reducible rfl⟩) (hN : oi.dst = some d := by rfl) (ha : a.put (some d) v = a' := by simp only [putW]; rfl) : wpAnyLast P md ops Q S ds (fuel + 1) (bits n m) a w := pure_ (bits n (m ||| (1 <<< i))) hi hN hc (by rw [hN]; exact hQ) hy ha h
theorem t1_ (hS : S w) (h : wpAnyLast P md ops Q S ds fuel (bits n (m ||| (1 <<< i))) a' w) (hi : ops[i]? = some oi := by rfl) (hc : takeB md ops ds (bits n m) (bits n (m ||| (1 <<< i))) i = true := by kernel_rfl)
  (hQ : ∀ c a w, Q (.panic c) (a.put (some d) v) w → Q (.panic c) a w := by exact fun _ _ _ h => h) (hy : YieldsIf P ops S oi v a := by exact Or.inl ⟨by rfl, by rintro w' s0; go_simp; with_reducible rfl⟩) (hN : oi.dst = some d := by rfl) (ha : a.put (some d) v = a' := by simp only [putW]; rfl) : wpAnyLast P md ops Q S ds (fuel + 1) (bits n m) a w := take_ (bits n (m ||| (1 <<< i))) hi hN hc (by rw [hN]; exact hQ) hy hS ha h
theorem t2_ (hS : S w) (h : wpAnyLast P md ops Q S ds fuel (bits n (m ||| (1 <<< i))) a' w) (hi : ops[i]? = some oi := by rfl) (hc : takeB md ops ds (bits n m) (bits n (m ||| (1 <<< i))) i = true := by kernel_rfl)
  (hQ : ∀ c a w, Q (.panic c) (a.put (some d) v) w → Q (.panic c) a w := by exact fun _ _ _ h => h) (hy : YieldsIf P ops S oi v a := by exact Or.inl ⟨by rfl, by rintro w' ⟨s0, s1⟩; go_simp; with_reducible rfl⟩) (hN : oi.dst = some d := by rfl) (ha : a.put (some d) v = a' := by simp only [putW]; rfl) : wpAnyLast P md ops Q S ds (fuel + 1) (bits n m) a w := take_ (bits n (m ||| (1 <<< i))) hi hN hc (by rw [hN]; exact hQ) hy hS ha h
theorem t3_ (hS : S w) (h : wpAnyLast P md ops Q S ds fuel (bits n (m ||| (1 <<< i))) a' w) (hi : ops[i]? = some oi := by rfl) (hc : takeB md ops ds (bits n m) (bits n (m ||| (1 <<< i))) i = true := by kernel_rfl)
  (hQ : ∀ c a w, Q (.panic c) (a.put (some d) v) w → Q (.panic c) a w := by exact fun _ _ _ h => h) (hy : YieldsIf P ops S oi v a := by exact Or.inl ⟨by rfl, by rintro w' ⟨s0, s1, s2⟩; go_simp; with_reducible rfl⟩) (hN : oi.dst = some d := by rfl) (ha : a.put (some d) v = a' := by simp only [putW]; rfl) : wpAnyLast P md ops Q S ds (fuel + 1) (bits n m) a w := take_ (bits n (m ||| (1 <<< i))) hi hN hc (by rw [hN]; exact hQ) hy hS ha h
theorem t4_ (hS : S w) (h : wpAnyLast P md ops Q S ds fuel (bits n (m ||| (1 <<< i))) a' w) (hi : ops[i]? = some oi := by rfl) (hc : takeB md ops ds (bits n m) (bits n (m ||| (1 <<< i))) i = true := by kernel_rfl)
  (hQ : ∀ c a w, Q (.panic c) (a.put (some d) v) w → Q (.panic c) a w := by exact fun _ _ _ h => h) (hy : YieldsIf P ops S oi v a := by exact Or.inl ⟨by rfl, by rintro w' ⟨s0, s1, s2, s3⟩; go_simp; with_reducible rfl⟩) (hN : oi.dst = some d := by rfl) (ha : a.put (some d) v = a' := by simp only [putW]; rfl) : wpAnyLast P md ops Q S ds (fuel + 1) (bits n m) a w := take_ (bits n (m ||| (1 <<< i))) hi hN hc (by rw [hN]; exact hQ) hy hS ha h
theorem t5_ (hS : S w) (h : wpAnyLast P md ops Q S ds fuel (bits n (m ||| (1 <<< i))) a' w) (hi : ops[i]? = some oi := by rfl) (hc : takeB md ops ds (bits n m) (bits n (m ||| (1 <<< i))) i = true := by kernel_rfl)
  (hQ : ∀ c a w, Q (.panic c) (a.put (some d) v) w → Q (.panic c) a w := by exact fun _ _ _ h => h) (hy : YieldsIf P ops S oi v a := by exact Or.inl ⟨by rfl, by rintro w' ⟨s0, s1, s2, s3, s4⟩; go_simp; with_reducible rfl⟩) (hN : oi.dst = some d := by rfl) (ha : a.put (some d) v = a' := by simp only [putW]; rfl) : wpAnyLast P md ops Q S ds (fuel + 1) (bits n m) a w := take_ (bits n (m ||| (1 <<< i))) hi hN hc (by rw [hN]; exact hQ) hy hS ha h
theorem t6_ (hS : S w) (h : wpAnyLast P md ops Q S ds fuel (bits n (m ||| (1 <<< i))) a' w) (hi : ops[i]? = some oi := by rfl) (hc : takeB md ops ds (bits n m) (bits n (m ||| (1 <<< i))) i = true := by kernel_rfl)
  (hQ : ∀ c a w, Q (.panic c) (a.put (some d) v) w → Q (.panic c) a w := by exact fun _ _ _ h => h) (hy : YieldsIf P ops S oi v a := by exact Or.inl ⟨by rfl, by rintro w' ⟨s0, s1, s2, s3, s4, s5⟩; go_simp; with_reducible rfl⟩) (hN : oi.dst = some d := by rfl) (ha : a.put (some d) v = a' := by simp only [putW]; rfl) : wpAnyLast P md ops Q S ds (fuel + 1) (bits n m) a w := take_ (bits n (m ||| (1 <<< i))) hi hN hc (by rw [hN]; exact hQ) hy hS ha h
theorem q_ {T} (HT : Aside0 (rtab md ops = T)) (h : wpAnyLast P md ops Q S ds fuel (bits n (m ||| (1 <<< i))) a' w) (hi : ops[i]? = some oi := by rfl) (hc : anyT T (bits n m).toList (bits n (m ||| (1 <<< i))).toList i = true := by kernel_rfl)
  (hQ : ∀ c a w, Q (.panic c) (a.put (some d) v) w → Q (.panic c) a w := by exact fun _ _ _ h => h) (hy : Yields P ops oi v a := by exact Or.inl ⟨by rfl, by intro w'; go_simp; with_reducible rfl⟩) (hN : oi.dst = some d := by rfl) (ha : a.put (some d) v = a' := by simp only [putW]; rfl) : wpAnyLast P md ops Q S ds (fuel + 1) (bits n m) a w := p_ i d h hi (any_of HT.out hc) hQ hy hN ha
theorem r3_ {T} {B : List Nat} (HT : Aside0 (rtab md ops = T)) (HB : Aside0 (waitsOk T.2 B = true)) (hS : S w) (h : wpAnyLast P md ops Q S ds fuel (bits n (m ||| (1 <<< i))) a' w) (hi : ops[i]? = some oi := by rfl) (hc : takeW T B ds (bits n m).toList (bits n (m ||| (1 <<< i))).toList i = true := by kernel_rfl)
  (hQ : ∀ c a w, Q (.panic c) (a.put (some d) v) w → Q (.panic c) a w := by exact fun _ _ _ h => h) (hy : YieldsIf P ops S oi v a := by exact Or.inl ⟨by rfl, by rintro w' ⟨s0, s1, s2⟩; go_simp; with_reducible rfl⟩) (hN : oi.dst = some d := by rfl) (ha : a.put (some d) v = a' := by simp only [putW]; rfl) : wpAnyLast P md ops Q S ds (fuel + 1) (bits n m) a w := take_ (bits n (m ||| (1 <<< i))) hi hN (take_ofW HT.out HB.out hc) (by rw [hN]; exact hQ) hy hS ha h
theorem o_ (h : ∀ K : Act → World → Prop, Shut (∀ a' w', S w' → (S w' → wpAnyLast P md ops Q S ds fuel (bits n (m ||| (1 <<< i))) a' w') → K a' w') → if Region.wanted oi (yielded ops a.tmps) = true then Oper.wp P oi a w K Q else K (a.put (some d) undef) w)
  (hi : ops[i]? = some oi := by rfl) (hN : oi.dst = some d := by rfl) (hc : readyB md ops (bits n m) (bits n (m ||| (1 <<< i))) i = true := by kernel_rfl) (hd : i ∉ ds := by decide) : wpAnyLast P md ops Q S ds (fuel + 1) (bits n m) a w := one_ (bits n (m ||| (1 <<< i))) hi hN hc hd h
theorem l_ (h : ∀ K : Act → World → Prop, Shut (∀ a' w', wpAnyLast P md ops Q S ds fuel (bits n (m ||| (1 <<< i))) a' w' → K a' w') → if Region.wanted oi (yielded ops a.tmps) = true then Oper.wp P oi a w K Q else K (a.put none undef) w)
  (hi : ops[i]? = some oi := by rfl) (hN : oi.dst = none := by rfl) (hc : readyB md ops (bits n m) (bits n (m ||| (1 <<< i))) i = true := by kernel_rfl) (hd : i ∈ ds := by decide) : wpAnyLast P md ops Q S ds (fuel + 1) (bits n m) a w := last_ (bits n (m ||| (1 <<< i))) hi hN hc hd h
theorem ld_ (h : ∀ K : Act → World → Prop, Shut (∀ a' w', wpAnyLast P md ops Q S ds fuel (bits n (m ||| (1 <<< i))) a' w' → K a' w') → if Region.wanted oi (yielded ops a.tmps) = true then Oper.wp P oi a w K Q else K (a.put (some d) undef) w)
  (hi : ops[i]? = some oi := by rfl) (hN : oi.dst = some d := by rfl) (hc : readyB md ops (bits n m) (bits n (m ||| (1 <<< i))) i = true := by kernel_rfl) (hd : i ∈ ds := by decide) : wpAnyLast P md ops Q S ds (fuel + 1) (bits n m) a w := last_ (bits n (m ||| (1 <<< i))) hi hN hc hd h
end
theorem n_ (d : Nat) {fuel : Nat} {l : Array Bool} {a a0 a' : Act} {v : Value} {w : World} (h : wpAnyLast P md ops Q S ds fuel l a' w) (hd : a = Act.put a0 (some d) v := by rfl) (ha : Act.put a0 (some d) v = a' := by simp only [putW]; rfl) : wpAnyLast P md ops Q S ds fuel l a w := norm_ (hd.trans ha) h
theorem d_ {n : Nat} {l : Array Bool} {a : Act} {w : World} (h : Q .normal a w) (hr : (Region.ready md ops l == []) = true := by kernel_rfl) : wpAnyLast P md ops Q S ds n l a w := done_ hr h
end
abbrev Mat := Nat → Nat → Bool
def mset (M : Mat) (u x : Nat) : Mat := fun i j => if i = u ∧ j = x then true else M i j
def gset (g : Nat → Bool) (v : Nat) : Nat → Bool := fun i => if i = v then true else g i
structure TbIs (w : World) (base R : Nat) (rb : Nat → Nat) (Gb n : Nat) (M : Mat) (g : Nat → Bool) : Prop where
 row : ∀ i, i < n → w.cell? ⟨R, i, none⟩ = some (.slice (some ⟨rb i, 0, none⟩) n n)
 cel : ∀ i, i < n → ∀ j, j < n → w.cell? ⟨rb i, j, none⟩ = some (.bool (M i j))
 gon : ∀ i, i < n → w.cell? ⟨Gb, i, none⟩ = some (.bool (g i))
 inj : ∀ i j, i < n → j < n → rb i = rb j → i = j
 ne : ∀ i, i < n → rb i ≠ R ∧ rb i ≠ Gb
 neg : R ≠ Gb
 lo : base ≤ Gb
 los : ∀ i, i < n → base ≤ rb i
 frz : ∀ i, i < n → ∀ j, w.frozen? ⟨rb i, j, none⟩ = false
 frg : ∀ j, w.frozen? ⟨Gb, j, none⟩ = false
 top : R < w.heap.size ∧ Gb < w.heap.size
 tops : ∀ i, i < n → rb i < w.heap.size
section
variable {w w1 : World} {base R Gb n : Nat} {rb : Nat → Nat} {M : Mat} {g : Nat → Bool}
theorem TbIs.keep (h : TbIs w base R rb Gb n M g) (hs : w.heap.size ≤ w1.heap.size) (hR : w1.heap[R]? = w.heap[R]?) (hG : w1.heap[Gb]? = w.heap[Gb]?) (hb : ∀ i, i < n → w1.heap[rb i]? = w.heap[rb i]?) : TbIs w1 base R rb Gb n M g := by
 have hc : ∀ (b i : Nat), w1.heap[b]? = w.heap[b]? → w1.cell? ⟨b, i, none⟩ = w.cell? ⟨b, i, none⟩ := fun b i e => by unfold World.cell?; rw [e]
 exact ⟨fun i hi => (hc R i hR).trans (h.row i hi), fun i hi j hj => (hc _ j (hb i hi)).trans (h.cel i hi j hj), fun i hi => (hc Gb i hG).trans (h.gon i hi), h.inj, h.ne, h.neg, h.lo, h.los,
  fun i hi j => (World.frozen?_of_block (hb i hi)).trans (h.frz i hi j), fun j => (World.frozen?_of_block hG).trans (h.frg j), ⟨Nat.lt_of_lt_of_le h.top.1 hs, Nat.lt_of_lt_of_le h.top.2 hs⟩, fun i hi => Nat.lt_of_lt_of_le (h.tops i hi) hs⟩
theorem TbIs.below (h : TbIs w base R rb Gb n M g) (hb : Below w.heap.size w w1) : TbIs w1 base R rb Gb n M g := h.keep hb.size (hb.block _ h.top.1) (hb.block _ h.top.2) (fun i hi => hb.block _ (h.tops i hi))
theorem TbIs.drew (h : TbIs w base R rb Gb n M g) : TbIs w.drew base R rb Gb n M g := h.keep (Nat.le_refl _) rfl rfl (fun _ _ => rfl)
theorem TbIs.drewN (h : TbIs w base R rb Gb n M g) (q : Nat) : TbIs (w.drewN q) base R rb Gb n M g := h.keep (Nat.le_refl _) rfl rfl (fun _ _ => rfl)
theorem TbIs.setRow (h : TbIs w base R rb Gb n M g) {u x : Nat} (hu : u < n) (hx : x < n) : TbIs (w.setCell ⟨rb u, x, none⟩ (.bool true)) base R rb Gb n (mset M u x) g := by
 have hne := h.ne u hu
 refine ⟨fun i hi => ?_, fun i hi j hj => ?_, fun i hi => ?_, h.inj, h.ne, h.neg, h.lo, h.los, fun i hi j => ?_, fun j => ?_, ?_, fun i hi => ?_⟩
 ·refine (World.cell?_setCell_other (h := fun e => ?_) ..).trans (h.row i hi)
  injection e with e
  exact hne.1 e
 ·unfold mset
  by_cases e : i = u ∧ j = x
  ·obtain ⟨rfl, rfl⟩ := e
   rw [if_pos ⟨rfl, rfl⟩]
   exact World.cell?_setCell_same _ _ _ (h.cel i hi j hj)
  ·rw [if_neg e]
   refine (World.cell?_setCell_other (h := fun e2 => e ?_) ..).trans (h.cel i hi j hj)
   injection e2 with e2 e3
   exact ⟨(h.inj _ _ hu hi e2).symm, e3.symm⟩
 ·refine (World.cell?_setCell_other (h := fun e => ?_) ..).trans (h.gon i hi)
  injection e with e
  exact hne.2 e
 ·rw [World.frozen?_setCell]
  exact h.frz i hi j
 ·rw [World.frozen?_setCell]
  exact h.frg j
 ·rw [setCell_size]
  exact h.top
 ·rw [setCell_size]
  exact h.tops i hi
theorem TbIs.setGone (h : TbIs w base R rb Gb n M g) {v : Nat} (hv : v < n) : TbIs (w.setCell ⟨Gb, v, none⟩ (.bool true)) base R rb Gb n M (gset g v) := by
 refine ⟨fun i hi => ?_, fun i hi j hj => ?_, fun i hi => ?_, h.inj, h.ne, h.neg, h.lo, h.los, fun i hi j => ?_, fun j => ?_, ?_, fun i hi => ?_⟩
 ·refine (World.cell?_setCell_other (h := fun e => ?_) ..).trans (h.row i hi)
  injection e with e
  exact h.neg e.symm
 ·refine (World.cell?_setCell_other (h := fun e => ?_) ..).trans (h.cel i hi j hj)
  injection e with e
  exact (h.ne i hi).2 e.symm
 ·unfold gset
  by_cases e : i = v
  ·subst e
   rw [if_pos rfl]
   exact World.cell?_setCell_same _ _ _ (h.gon i hi)
  ·rw [if_neg e]
   refine (World.cell?_setCell_other (h := fun e2 => e ?_) ..).trans (h.gon i hi)
   injection e2 with _ e3
   exact e3.symm
 ·rw [World.frozen?_setCell]
  exact h.frz i hi j
 ·rw [World.frozen?_setCell]
  exact h.frg j
 ·rw [setCell_size]
  exact h.top
 ·rw [setCell_size]
  exact h.tops i hi
end
def TbT (Gb : Nat) (rb : Nat → Nat) (n : Nat) (k : Nat) : Prop := k = Gb ∨ ∃ i, i < n ∧ k = rb i
def tabV (R c Gb n : Nat) : Value := .agg #[.slice (some ⟨R, 0, none⟩) n c, .slice (some ⟨Gb, 0, none⟩) n n]
def tIn (v u : Nat) (g : Nat → Bool) : Nat → Nat → Mat → Int → Mat × Int
 | 0, _, M, c => (M, c)
 | d + 1, x, M, c => if M v u = true ∧ M v x = true ∧ g u = false ∧ g x = false ∧ M u x = false then tIn v u g d (x + 1) (mset (mset M u x) x u) (wrap64 (c + 1)) else tIn v u g d (x + 1) M c
def tOut (v n : Nat) (g : Nat → Bool) : Nat → Nat → Mat → Int → Mat × Int
 | 0, _, M, c => (M, c)
 | d + 1, u, M, c => tOut v n g d (u + 1) (tIn v u g (n - (u + 1)) (u + 1) M c).1 (tIn v u g (n - (u + 1)) (u + 1) M c).2
def tElim (M : Mat) (g : Nat → Bool) (v n : Nat) : Mat × Int := tOut v n (gset g v) n 0 M 0
set_option maxHeartbeats 3200000 in
set_option maxRecDepth 100000 in
theorem Eliminate.calls (base R c Gb n : Nat) (rb : Nat → Nat) (M : Mat) (g : Nat → Bool) (v : Nat) (w : World) (h : TbIs w base R rb Gb n M g) (hv : v < n) (hn : n ≤ 20000) (hc : n ≤ c) :
  Calls Try.prog 63 #[tabV R c Gb n, .int .i64 v] w fun e w' => e = .returned (.int .i64 (tElim M g v n).2) ∧ TbIs w' base R rb Gb n (tElim M g v n).1 (gset g v) ∧ Bel (TbT Gb rb n) w w' := by
 have HT := Aside0.mk h
 clear h
 unfold tabV
 have hcg := (HT.out.below ((Below.refl _ _).alloc (Nat.le_refl _) (.cells #[.slice (some ⟨R, 0, none⟩) n c, .slice (some ⟨Gb, 0, none⟩) n n] 111 (0, 0)))).gon v hv
 have hfg := (HT.out.below ((Below.refl _ _).alloc (Nat.le_refl _) (.cells #[.slice (some ⟨R, 0, none⟩) n c, .slice (some ⟨Gb, 0, none⟩) n n] 111 (0, 0)))).frg v
 go_enter Try.func63, Try.ntmps63
 go_wp2
 clear hcg hfg
 have HT0 := Aside0.mk ((HT.out.below ((Below.refl _ _).alloc (Nat.le_refl _) (.cells #[.slice (some ⟨R, 0, none⟩) n c, .slice (some ⟨Gb, 0, none⟩) n n] 111 (0, 0)))).setGone hv)
 have HNB : Aside0 (w.heap.size ≠ Gb ∧ ∀ i, i < n → w.heap.size ≠ rb i) := ⟨⟨by have := HT.out.top.2; omega, fun i hi => by have := HT.out.tops i hi; omega⟩⟩
 have HK0 : Aside0 (((w.alloc (.cells #[.slice (some ⟨R, 0, none⟩) n c, .slice (some ⟨Gb, 0, none⟩) n n] 111 (0, 0))).setCell ⟨Gb, v, none⟩ (.bool true)).heap[w.heap.size]? = some (.cells #[.slice (some ⟨R, 0, none⟩) n c, .slice (some ⟨Gb, 0, none⟩) n n] 111 (0, 0))) := ⟨by
  rw [Below.heap_setCell _ _ _ _ HNB.out.1]
  exact heap_alloc_new w _⟩
 have HE0 := Aside0.mk (((Bel.refl (TbT Gb rb n) w).alloc (.cells #[.slice (some ⟨R, 0, none⟩) n c, .slice (some ⟨Gb, 0, none⟩) n n] 111 (0, 0))).setCell ⟨Gb, v, none⟩ (.bool true) (.inl (.inl rfl)))
 go_loopw [5, 6] (fun s i wr => ∃ (u : Nat) (Mu : Mat) (cu : Int), i = .int .i64 u ∧ u ≤ n ∧ s = .int .i64 cu ∧ Aside0 (tOut v n (gset g v) (n - u) u Mu cu = tElim M g v n) ∧ Aside0 (TbIs wr base R rb Gb n Mu (gset g v)) ∧
  Aside0 (wr.heap[w.heap.size]? = some (.cells #[.slice (some ⟨R, 0, none⟩) n c, .slice (some ⟨Gb, 0, none⟩) n n] 111 (0, 0))) ∧ Aside0 (Bel (TbT Gb rb n) w wr)) (fun _ i _ => n - (intOf i).toNat)
 case atStart => exact ⟨0, M, 0, rfl, Nat.zero_le _, rfl, ⟨rfl⟩, HT0, HK0, HE0⟩
 case round =>
  clear HT0 HK0 HE0
  obtain ⟨u, Mu, cu, rfl, hu, rfl, HF, HTu, HK, HE⟩ := hrel
  have hbk0 := (blk_cell HK.out 0).trans rfl
  by_cases hlt : u < n
  ·have HF1 : Aside0 (∀ Mx cx, tIn v u (gset g v) (n - (u + 1)) (u + 1) Mu cu = (Mx, cx) → tOut v n (gset g v) (n - (u + 1)) (u + 1) Mx cx = tElim M g v n) := ⟨fun Mx cx hx => by
    rw [← HF.out, show n - u = (n - (u + 1)) + 1 by omega]
    conv => rhs; unfold tOut
    rw [hx]⟩
   go_wp2
   clear hbk0
   go_loopw [5, 7] (fun s i wr => ∃ (x : Nat) (Mx : Mat) (cx : Int), i = .int .i64 x ∧ u < x ∧ x ≤ n ∧ s = .int .i64 cx ∧ Aside0 (tIn v u (gset g v) (n - x) x Mx cx = tIn v u (gset g v) (n - (u + 1)) (u + 1) Mu cu) ∧ Aside0 (TbIs wr base R rb Gb n Mx (gset g v)) ∧
    Aside0 (wr.heap[w.heap.size]? = some (.cells #[.slice (some ⟨R, 0, none⟩) n c, .slice (some ⟨Gb, 0, none⟩) n n] 111 (0, 0))) ∧ Aside0 (Bel (TbT Gb rb n) w wr)) (fun _ i _ => n - (intOf i).toNat)
   case atStart => exact ⟨u + 1, Mu, cu, by go_num, by omega, by omega, rfl, ⟨rfl⟩, HTu, HK, HE⟩
   case round =>
    clear HTu HK HE HF
    obtain ⟨x, Mx, cx, rfl, hux, hx, rfl, HG, HTx, HK, HE⟩ := hrel
    have hbk0 := (blk_cell HK.out 0).trans rfl
    have hbk1 := (blk_cell HK.out 1).trans rfl
    by_cases hxn : x < n
    ·have hstep : tIn v u (gset g v) (n - x) x Mx cx = if Mx v u = true ∧ Mx v x = true ∧ gset g v u = false ∧ gset g v x = false ∧ Mx u x = false then tIn v u (gset g v) (n - (x + 1)) (x + 1) (mset (mset Mx u x) x u) (wrap64 (cx + 1)) else tIn v u (gset g v) (n - (x + 1)) (x + 1) Mx cx := by
      rw [show n - x = (n - (x + 1)) + 1 by omega]
      rfl
     have HG1 := HG.out
     rw [hstep] at HG1
     have hrv := HTx.out.row v hv
     have hru := HTx.out.row u hlt
     have hcu := HTx.out.cel v hv u hlt
     have hcx := HTx.out.cel v hv x hxn
     have hgu := HTx.out.gon u hlt
     have hgx := HTx.out.gon x hxn
     have hux2 := HTx.out.cel u hlt x hxn
     clear hstep
     cases h1 : Mx v u with
     | false =>
      rw [h1] at hcu
      rw [if_neg (fun h => by rw [h1] at h; exact absurd h.1 (by simp))] at HG1
      have HG2 := Aside0.mk HG1
      clear HG1 h1 hcx hgu hgx hux2 hru
      go_wp2
      go_roundw
      case rel => exact ⟨x + 1, Mx, cx, by go_num, by omega, by omega, rfl, HG2, HTx, HK, HE⟩
      case measure => simp [intOf]; omega
     | true =>
      cases h2 : Mx v x with
      | false =>
       rw [h1] at hcu
       rw [h2] at hcx
       rw [if_neg (fun h => by rw [h2] at h; exact absurd h.2.1 (by simp))] at HG1
       have HG2 := Aside0.mk HG1
       clear HG1 h1 h2 hgu hgx hux2 hru
       go_wp2
       go_roundw
       case rel => exact ⟨x + 1, Mx, cx, by go_num, by omega, by omega, rfl, HG2, HTx, HK, HE⟩
       case measure => simp [intOf]; omega
      | true =>
       cases h3 : gset g v u with
       | true =>
        rw [h1] at hcu
        rw [h2] at hcx
        rw [h3] at hgu
        rw [if_neg (fun h => by rw [h3] at h; exact absurd h.2.2.1 (by simp))] at HG1
        have HG2 := Aside0.mk HG1
        clear HG1 h1 h2 h3 hgx hux2 hru
        go_wp2
        go_roundw
        case rel => exact ⟨x + 1, Mx, cx, by go_num, by omega, by omega, rfl, HG2, HTx, HK, HE⟩
        case measure => simp [intOf]; omega
       | false =>
        cases h4 : gset g v x with
        | true =>
         rw [h1] at hcu
         rw [h2] at hcx
         rw [h3] at hgu
         rw [h4] at hgx
         rw [if_neg (fun h => by rw [h4] at h; exact absurd h.2.2.2.1 (by simp))] at HG1
         have HG2 := Aside0.mk HG1
         clear HG1 h1 h2 h3 h4 hux2 hru
         go_wp2
         go_roundw
         case rel => exact ⟨x + 1, Mx, cx, by go_num, by omega, by omega, rfl, HG2, HTx, HK, HE⟩
         case measure => simp [intOf]; omega
        | false =>
         cases h5 : Mx u x with
         | true =>
          rw [h1] at hcu
          rw [h2] at hcx
          rw [h3] at hgu
          rw [h4] at hgx
          rw [h5] at hux2
          rw [if_neg (fun h => by rw [h5] at h; exact absurd h.2.2.2.2 (by simp))] at HG1
          have HG2 := Aside0.mk HG1
          clear HG1 h1 h2 h3 h4 h5
          go_wp2
          go_roundw
          case rel => exact ⟨x + 1, Mx, cx, by go_num, by omega, by omega, rfl, HG2, HTx, HK, HE⟩
          case measure => simp [intOf]; omega
         | false =>
          rw [if_pos ⟨h1, h2, h3, h4, h5⟩] at HG1
          rw [h1] at hcu
          rw [h2] at hcx
          rw [h3] at hgu
          rw [h4] at hgx
          rw [h5] at hux2
          have HG2 := Aside0.mk HG1
          have hfu := HTx.out.frz u hlt x
          clear HG1 h1 h2 h3 h4 h5
          go_upto_region 11 with (fail)
          have HT5 := Aside0.mk (HTx.out.setRow hlt hxn)
          have HK5 : Aside0 ((wr.setCell ⟨rb u, x, none⟩ (.bool true)).heap[w.heap.size]? = some (.cells #[.slice (some ⟨R, 0, none⟩) n c, .slice (some ⟨Gb, 0, none⟩) n n] 111 (0, 0))) := ⟨by
           rw [Below.heap_setCell _ _ _ _ (HNB.out.2 u hlt)]
           exact HK.out⟩
          have HE5 := Aside0.mk (HE.out.setCell ⟨rb u, x, none⟩ (.bool true) (.inl (.inr ⟨u, hlt, rfl⟩)))
          generalize wr.setCell ⟨rb u, x, none⟩ (.bool true) = w5 at HT5 HK5 HE5 ⊢
          clear hcu hcx hgu hgx hux2 hrv hru hfu hbk0 hbk1
          have hrx := HT5.out.row x hxn
          have hxu := HT5.out.cel x hxn u hlt
          have hfx := HT5.out.frz x hxn u
          have hbk0 := (blk_cell HK5.out 0).trans rfl
          go_wp2
          go_roundw
          case rel =>
           exact ⟨x + 1, mset (mset Mx u x) x u, wrap64 (cx + 1), by go_num, by omega, by omega, rfl, HG2, ⟨HT5.out.setRow hxn hlt⟩, ⟨by
            rw [Below.heap_setCell _ _ _ _ (HNB.out.2 x hxn)]
            exact HK5.out⟩, ⟨HE5.out.setCell ⟨rb x, u, none⟩ (.bool true) (.inl (.inr ⟨x, hxn, rfl⟩))⟩⟩
          case measure => simp [intOf]; omega
    ·have hx2 : x = n := by omega
     have HG1 := HG.out
     rw [hx2, Nat.sub_self] at HG1
     have HF2 := Aside0.mk (HF1.out Mx cx HG1.symm)
     clear HG1
     subst hx2
     go_wp2
     go_roundw
     case rel => exact ⟨u + 1, Mx, cx, by go_num, by omega, rfl, HF2, HTx, HK, HE⟩
     case measure => simp [intOf]; omega
  ·have hk2 : u = n := by omega
   have HF1 := HF.out
   rw [hk2, Nat.sub_self] at HF1
   have HF2 := Aside0.mk (show tElim M g v n = (Mu, cu) from HF1.symm)
   clear HF1
   subst hk2
   go_wp2
   go_ret
   rw [HF2.out]
   exact ⟨rfl, HTu.out, HE.out⟩
open Go.RowKit Go.Proofs.YtfnophaiamkmpaaW.PrintWords
def Wf (k : IntKind) (n : Int) : Prop := (Lit.int k n).wf = true
theorem Wf.i64 {n : Int} : Wf .i64 n ↔ -9223372036854775808 ≤ n ∧ n ≤ 9223372036854775807 := by
 unfold Wf
 simp [Lit.wf, IntKind.min, IntKind.max, IntKind.signed, IntKind.bits]
def Light {H : Type} (P : Program) (t : TypeId) (d : DataW H) : Prop := ∀ n ∈ d.weights P t, n ≤ 140737488351232
def Opens {α : Type} (P : Program) (d : Kd α) (t : TypeId) (G : α → Prop) : Prop :=
 ∀ {H : Type} (enc : TypeId × Value → H) (w : World) (base : Nat) (spare : Nat → Bool) (held : Bool) (fuel : Nat) (cs : List Value) (x : DataW H × List MemPlace),
  DataW.trod enc P w base spare held fuel t cs = some x → Light P t x.1 → ∃ v : α, d.K w v cs ∧ G v
theorem opens_int {P : Program} {t : TypeId} {k : IntKind} (ht : P.underlying t = some (.int k)) : Opens P (Kd.int k) t (Wf k) := by
 intro H enc w base spare held fuel cs x h _
 obtain ⟨n, rfl, _, hw⟩ := DataW.trod_int ht h
 exact ⟨n, rfl, hw⟩
theorem opens_iso {α β : Type} {P : Program} {t : TypeId} {d : Kd α} {G : α → Prop} (f : β → α) (g : α → β) (hfg : ∀ a, f (g a) = a) (h : Opens P d t G) : Opens P (Kd.iso d f) t (fun x => G (f x)) := by
 intro H enc w base spare held fuel cs x hx hw
 obtain ⟨v, hk, hg⟩ := h enc w base spare held fuel cs x hx hw
 exact ⟨g v, show d.K w (f (g v)) cs by rw [hfg]; exact hk, by show G (f (g v)); rw [hfg]; exact hg⟩
theorem light_all {H : Type} {P : Program} {e : TypeId} : ∀ {l : List (DataW H)} {d : DataW H}, d ∈ l → ∀ n ∈ d.weights P e, n ∈ DataW.weightsAll P e l
 | y :: r, d, hd, n, hn => by
  unfold DataW.weightsAll
  rw [List.mem_append]
  rcases List.mem_cons.1 hd with rfl | hd
  ·exact .inl hn
  ·exact .inr (light_all hd n hn)
theorem list_of_all {α : Type} {Q : Nat → α → Prop} : ∀ (n : Nat), (∀ i, i < n → ∃ v, Q i v) → ∃ l : List α, l.length = n ∧ ∀ i v, l[i]? = some v → Q i v
 | 0, _ => ⟨[], rfl, fun i v h => by simp at h⟩
 | n + 1, h => by
  obtain ⟨l, hl, hq⟩ := list_of_all n (fun i hi => h i (by omega))
  obtain ⟨v, hv⟩ := h n (by omega)
  refine ⟨l ++ [v], by simp [hl], fun i u hu => ?_⟩
  rcases Nat.lt_or_ge i l.length with hi | hi
  ·rw [List.getElem?_append_left hi] at hu
   exact hq i u hu
  ·rw [List.getElem?_append_right hi] at hu
   have : i = n := by
    have := (List.getElem?_eq_some_iff.1 hu).1
    simp at this
    omega
   subst this
   have : i - l.length = 0 := by omega
   rw [this] at hu
   simp at hu
   subst hu
   exact hv
theorem opens_slice {α : Type} {P : Program} {t e : TypeId} {d : Kd α} {G : α → Prop} (B : Nat) (ht : P.underlying t = some (.slice e)) (hc : P.cellsOf e = d.sz) (hb : P.bytesOf e = B) (h : Opens P d e G) :
  Opens P (Kd.slice e d) t (fun xs => xs.length * B ≤ 140737488351232 ∧ ∀ x ∈ xs, G x) := by
 intro H enc w base spare held fuel cs x hx hw
 rcases DataW.trod_slice ht hx with ⟨rfl, rfl⟩ | ⟨a, len, cap, elems, rest, n, _, rfl, rfl, hba, hl, hm, hel, hget, _, _⟩
 ·exact ⟨[], ⟨none, 0, rfl, Nat.le_refl _, rfl, by simp, fun h0 => absurd h0 (by simp)⟩, by simp, fun x hx => by simp at hx⟩
 ·have hwt : ∀ n ∈ (DataW.slice (elems.map (·.1)) (rest.map (·.1)) : DataW H).weights P t, n ≤ 140737488351232 := hw
  have hdef : (DataW.slice (elems.map (·.1)) (rest.map (·.1)) : DataW H).weights P t = ((elems.map (·.1)).length + (rest.map (·.1)).length) * P.bytesOf e :: (DataW.weightsAll P e (elems.map (·.1)) ++ DataW.weightsAll P e (rest.map (·.1))) := by
   simp [DataW.weights, ht]
  rw [hdef] at hwt
  obtain ⟨xs, hxl, hxq⟩ := list_of_all (Q := fun i v => G v ∧ ∃ c, c.length = d.sz ∧ d.K w v c ∧ ∀ j u, c[j]? = some u → w.cell? (a.add (i * d.sz + j)) = some u) len (fun i hi => by
   have hg := hget i hi
   rw [List.getElem?_eq_getElem (by omega)] at hg
   obtain ⟨c, hc1, hc2⟩ := Option.bind_eq_some_iff.1 hg
   rw [hc] at hc1
   obtain ⟨_, hcl, hat⟩ := World.cells?_some hc1
   obtain ⟨v, hk, hgv⟩ := h enc w base spare held n c _ hc2 (fun q hq => hwt q (List.mem_cons_of_mem _ (List.mem_append_left _ (light_all (List.mem_map.2 ⟨_, List.getElem_mem _, rfl⟩) q hq))))
   refine ⟨v, hgv, c, hcl, hk, fun j u hu => ?_⟩
   have hj : j < d.sz := by
    have := (List.getElem?_eq_some_iff.1 hu).1
    omega
   have := hat j hj
   rw [hu] at this
   rw [← this]
   congr 1
   unfold Addr.add
   by_cases hj0 : j = 0
   ·subst hj0; simp
   ·by_cases hi0 : i * d.sz = 0
    ·simp [hi0, hj0]
    ·simp [hi0, hj0, Nat.add_assoc])
  have hmax : len ≤ 9223372036854775807 := by simp only [maxLen] at hm; omega
  refine ⟨xs, ⟨some a, cap, by rw [hxl], by omega, hxl ▸ rfl, by omega, fun _ => ⟨a, rfl, fun j p hp => (hxq j p hp).2⟩⟩, ?_, fun y hy => ?_⟩
  ·have := hwt _ List.mem_cons_self
   rw [hb] at this
   simp only [List.length_map, hel] at this
   rw [hxl]
   exact Nat.le_trans (Nat.mul_le_mul_right _ (Nat.le_add_right _ _)) this
  ·obtain ⟨i, hi, rfl⟩ := List.mem_iff_getElem.1 hy
   exact (hxq i _ (List.getElem?_eq_getElem hi)).1
def OpensF {α : Type} (P : Program) (d : Kd α) (fs : List Field) (o : Nat) (G : α → Prop) : Prop :=
 ∀ {H : Type} (enc : TypeId × Value → H) (w : World) (base : Nat) (spare : Nat → Bool) (held : Bool) (n : Nat) (cs : List Value) (xs : List (DataW H × List MemPlace)),
  xs.length = fs.length → cs.length = d.sz → (∀ (i : Nat) (f : Field), fs[i]? = some f → DataW.trod enc P w base spare held n f.type ((cs.drop (f.offset - o)).take (P.cellsOf f.type)) = xs[i]?) →
  (∀ (i : Nat) (f : Field) (x : DataW H × List MemPlace), fs[i]? = some f → xs[i]? = some x → Light P f.type x.1) → ∃ v : α, d.K w v cs ∧ G v
theorem opensF_one {α : Type} {P : Program} {d : Kd α} {f : Field} {o : Nat} {G : α → Prop} (ho : f.offset = o) (hc : P.cellsOf f.type = d.sz) (h : Opens P d f.type G) : OpensF P d [f] o G := by
 intro H enc w base spare held n cs xs hl hcs hat hw
 have h0 := hat 0 f rfl
 rw [ho, Nat.sub_self, List.drop_zero, hc, ← hcs, List.take_length] at h0
 have hx : xs[0]? = some (xs[0]'(by rw [hl]; simp)) := List.getElem?_eq_getElem _
 rw [hx] at h0
 exact h enc w base spare held n cs _ h0 (hw 0 f _ rfl hx)
theorem opensF_cons {α β : Type} {P : Program} {a : Kd α} {b : Kd β} {f : Field} {fs : List Field} {o : Nat} {Ga : α → Prop} {Gb : β → Prop} (ho : f.offset = o) (hc : P.cellsOf f.type = a.sz) (hle : ∀ g ∈ fs, o + a.sz ≤ g.offset)
  (h : Opens P a f.type Ga) (h' : OpensF P b fs (o + a.sz) Gb) : OpensF P (Kd.pair a b) (f :: fs) o (fun x => Ga x.1 ∧ Gb x.2) := by
 intro H enc w base spare held n cs xs hl hcs hat hw
 have hcs' : cs.length = a.sz + b.sz := hcs
 match xs, hl with
 | x :: xs, hl =>
  have h0 := hat 0 f rfl
  rw [ho, Nat.sub_self, List.drop_zero, hc] at h0
  obtain ⟨v, hk, hg⟩ := h enc w base spare held n _ _ h0 (hw 0 f x rfl rfl)
  obtain ⟨u, hk', hg'⟩ := h' enc w base spare held n (cs.drop a.sz) xs (by simpa using hl) (by rw [List.length_drop]; omega) (fun i g hi => by
   have h1 := hat (i + 1) g hi
   have hle' := hle g (List.mem_of_getElem? hi)
   rw [List.drop_drop, show a.sz + (g.offset - (o + a.sz)) = g.offset - o by omega]
   exact h1) (fun i g y hi hy => hw (i + 1) g y hi hy)
  exact ⟨(v, u), ⟨cs.take a.sz, cs.drop a.sz, (List.take_append_drop _ _).symm, hk, hk'⟩, hg, hg'⟩
theorem opens_struct {α : Type} {P : Program} {t : TypeId} {d : Kd α} {fs : Array Field} {G : α → Prop} (ht : P.underlying t = some (.struct fs)) (hc : P.cellsOf t = d.sz) (h : OpensF P d fs.toList 0 G) : Opens P d t G := by
 intro H enc w base spare held fuel cs x hx hw
 obtain ⟨xs, n, _, rfl, hl, hlen, hat⟩ := DataW.trod_struct ht hx
 refine h enc w base spare held n cs xs (by simpa using hlen) (hl.trans hc) (fun i f hi => ?_) (fun i f y hi hy q hq => ?_)
 ·rw [Nat.sub_zero]
  exact hat i f (by simpa using hi)
 ·refine hw q ?_
  have : (DataW.agg (xs.map (·.1)) : DataW H).weights P t = DataW.weightsEach P (fs.toList.map (·.type)) (xs.map (·.1)) := by simp [DataW.weights, ht]
  show q ∈ (DataW.agg (xs.map (·.1)) : DataW H).weights P t
  rw [this]
  exact DataW.weights_mem_each (j := i) (t := f.type) (d := y.1) (by rw [List.getElem?_map, hi]; rfl) (by rw [List.getElem?_map, hy]; rfl) q hq
theorem open_param {α : Type} {P : Program} {d : Kd α} {t : TypeId} {G : α → Prop} (O : Opens P d t G) {H : Type} {enc : TypeId × Value → H} {w : World} {base : Nat} {spare : Nat → Bool} {held : Bool} {v : Value} {x : DataW H} {p : List MemPlace} {ts : List TypeId} {ds : List (DataW H)} {j : Nat}
  (hsz : (DataW.weightsEach P ts ds).all (· ≤ reachBytes) = true) (ht : ts[j]? = some t) (hd : ds[j]? = some x) (h : DataW.Trod enc P w base spare held t v x p) : ∃ y : α, d.K w y v.cells.toList ∧ G y := by
 obtain ⟨fuel, hf⟩ := h
 exact O enc w base spare held fuel _ _ hf (fun n hn => by
  have := List.all_eq_true.1 hsz n (DataW.weights_mem_each ht hd n hn)
  have h2 : n ≤ reachBytes := by simpa using this
  exact Nat.le_trans h2 (by decide))
end Go.Proofs.Ytfnophaiamkmpaa.Print
