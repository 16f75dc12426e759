/- Several texts of this claim in one: HXShort, HXOpen. -/
import Derived.Test.YtfnophaiamkmpaaPrint0
import Derived.Test.YtfnophaiamkmpaaV0
import Derived.SizedLaws
import Derived.ChangeArms
import Derived.ChangeSame
import Derived.DataReads
namespace Go.Proofs.Ytfnophaiamkmpaa.Print
open Go.RowKit Go.Proofs.YtfnophaiamkmpaaW.PrintWords Go.Proofs.YtfnophaiamkmpaaW.PrintLast Go.Proofs.YtfnophaiamkmpaaW.PrintMore
set_option linter.unusedVariables false
set_option linter.unusedSimpArgs false
theorem byR {p q : Prop} (h : q) (k : q → p := by intro h_; (with_reducible repeat (first | apply Kd.R_alloc | apply Kd.R_drewN | apply Kd.R_drew)); exact h_) : p := k h
theorem byS {p q : Prop} (h : q) (k : q → p := by intro h_; (with_reducible repeat (first | apply Kd.S_alloc | apply Kd.S_drewN | apply Kd.S_drew)); exact h_) : p := k h
theorem byK {p q : Prop} (h : q) (k : q → p := by intro h_; (with_reducible repeat (first | refine blk_drewN ?_ _ | refine blk_drew ?_ | refine blk_alloc ?_ _)); exact h_) : p := k h
theorem byC {p q : Prop} (h : q) (k : q → p := by intro h_; (repeat (first | exact h_ | (with_reducible refine Kd.C_alloc ?_ _) | (with_reducible refine Kd.C_drewN ?_ _) | (with_reducible refine Kd.C_drew ?_)))) : p := k h
theorem byB {p q : Prop} (h : q) (k : q → p := by intro h_; (repeat (first | (with_reducible first | exact h_ | apply below_alloc | apply pw_below_drewN | apply below_drew1) | exact h_))) : p := k h
theorem byB1 {p q q1 : Prop} (h : q) (h1 : q1) (k : q → q1 → p := by intro h_ h1_; (repeat (first | (with_reducible first | exact h_ | apply below_alloc | apply pw_below_drewN | apply below_drew1 | refine below_set ?_ h1_) | exact h_))) : p := k h h1
theorem byB2 {p q q1 q2 : Prop} (h : q) (h1 : q1) (h2 : q2) (k : q → q1 → q2 → p := by intro h_ h1_ h2_; (repeat (first | (with_reducible first | exact h_ | apply below_alloc | apply pw_below_drewN | apply below_drew1 | refine below_set ?_ h1_ | refine below_set ?_ h2_) | exact h_))) : p := k h h1 h2
theorem byB3 {p q q1 q2 q3 : Prop} (h : q) (h1 : q1) (h2 : q2) (h3 : q3) (k : q → q1 → q2 → q3 → p := by intro h_ h1_ h2_ h3_; (repeat (first | (with_reducible first | exact h_ | apply below_alloc | apply pw_below_drewN | apply below_drew1 | refine below_set ?_ h1_ | refine below_set ?_ h2_ | refine below_set ?_ h3_) | exact h_))) : p := k h h1 h2 h3
theorem odt {p : Prop} [Decidable p] (h : decide p = true := by first | (with_reducible assumption) | assumption) : p := of_decide_eq_true h
theorem byF {p : Prop} (h : p := by first | rfl | (simp; done) | (simp [*]; done)) : p := h
theorem byE {p : Prop} (h : p := by first | rfl | (simp [errW_none, errW_some] <;> rfl) | (simp [*, errW_none, errW_some] <;> rfl)) : p := h
theorem byL {p : Prop} (k : p := by (try simp only [List.map_toArray, List.map_cons, List.map_nil]); first | done | rfl | (simp only [List.length_drop, List.length_take]; rfl)) : p := k
theorem putW : (∀ (a : Act) (v : Value), a.put none v = a) ∧ (∀ (a : Act) (d : Tmp) (v : Value), a.put (some d) v = { a with tmps := a.tmps.setIfInBounds d v }) ∧ (∀ (α : Type) (xs : List α) (i : Nat) (v : α), xs.toArray.setIfInBounds i v = (xs.set i v).toArray) ∧ (∀ (α : Type) (x : α) (xs : List α) (v : α), (x :: xs).set 0 v = v :: xs) ∧ (∀ (α : Type) (x : α) (xs : List α) (n : Nat) (v : α), (x :: xs).set (n + 1) v = x :: xs.set n v) ∧ (∀ n : Int, IntKind.i64.wrap n = Go.RowKit.wrap64 n) ∧ (∀ n : Int, IntKind.i32.wrap n = Go.RowKit.wrap32 n) :=
 ⟨fun _ _ => rfl, fun _ _ _ => rfl, fun _ _ _ _ => List.setIfInBounds_toArray .., fun _ _ _ _ => rfl, fun _ _ _ _ _ => rfl, i64_w, i32_w⟩
def bits (n m : Nat) : Array Bool := ((List.range n).map m.testBit).toArray
section
variable {P : Program} {ops : Array Oper} {Q : Exit → Act → World → Prop} {md : Region.Mode} {S : World → Prop} {ds : List Nat}
theorem s_ {id n : Nat} {a : Act} {w : World} (S : World → Prop) (ds : List Nat) (hS : S w.drew) (h : S w.drew → wpAnyLast P .any ops Q S ds n (bits n 0) a w.drew) (hn : ops.size = n := by rfl) (hm : P.follows .mixedOrders = true := by kernel_rfl) (hl : Array.replicate n false = bits n 0 := by rfl) : (Code.region id ops true).wp P Q a w := start_ (bits n 0) hm hn hl hS h
section
variable (i d : Nat) {n m fuel : Nat} {oi : Oper} {v : Value} {a a' : Act} {w : World}
theorem p_ (h : wpAnyLast P md ops Q S ds fuel (bits n (m ||| (1 <<< i))) a' w) (hi : ops[i]? = some oi := by rfl) (hc : anyB md ops (bits n m) (bits n (m ||| (1 <<< i))) i = true := by kernel_rfl)
  (hQ : ∀ c a w, Q (.panic c) (a.put (some d) v) w → Q (.panic c) a w := by exact fun _ _ _ h => h) (hy : Yields P ops oi v a := by exact Or.inl ⟨by rfl, by intro w'; go_simp; with_reducible rfl⟩) (hN : oi.dst = some d := by rfl) (ha : a.put (some d) v = a' := by simp only [putW]; rfl) : wpAnyLast P md ops Q S ds (fuel + 1) (bits n m) a w := pure_ (bits n (m ||| (1 <<< i))) hi hN hc (by rw [hN]; exact hQ) hy ha h
theorem t1_ (hS : S w) (h : wpAnyLast P md ops Q S ds fuel (bits n (m ||| (1 <<< i))) a' w) (hi : ops[i]? = some oi := by rfl) (hc : takeB md ops ds (bits n m) (bits n (m ||| (1 <<< i))) i = true := by kernel_rfl)
  (hQ : ∀ c a w, Q (.panic c) (a.put (some d) v) w → Q (.panic c) a w := by exact fun _ _ _ h => h) (hy : YieldsIf P ops S oi v a := by exact Or.inl ⟨by rfl, by rintro w' s0; go_simp; with_reducible rfl⟩) (hN : oi.dst = some d := by rfl) (ha : a.put (some d) v = a' := by simp only [putW]; rfl) : wpAnyLast P md ops Q S ds (fuel + 1) (bits n m) a w := take_ (bits n (m ||| (1 <<< i))) hi hN hc (by rw [hN]; exact hQ) hy hS ha h
theorem t2_ (hS : S w) (h : wpAnyLast P md ops Q S ds fuel (bits n (m ||| (1 <<< i))) a' w) (hi : ops[i]? = some oi := by rfl) (hc : takeB md ops ds (bits n m) (bits n (m ||| (1 <<< i))) i = true := by kernel_rfl)
  (hQ : ∀ c a w, Q (.panic c) (a.put (some d) v) w → Q (.panic c) a w := by exact fun _ _ _ h => h) (hy : YieldsIf P ops S oi v a := by exact Or.inl ⟨by rfl, by rintro w' ⟨s0, s1⟩; go_simp; with_reducible rfl⟩) (hN : oi.dst = some d := by rfl) (ha : a.put (some d) v = a' := by simp only [putW]; rfl) : wpAnyLast P md ops Q S ds (fuel + 1) (bits n m) a w := take_ (bits n (m ||| (1 <<< i))) hi hN hc (by rw [hN]; exact hQ) hy hS ha h
theorem t3_ (hS : S w) (h : wpAnyLast P md ops Q S ds fuel (bits n (m ||| (1 <<< i))) a' w) (hi : ops[i]? = some oi := by rfl) (hc : takeB md ops ds (bits n m) (bits n (m ||| (1 <<< i))) i = true := by kernel_rfl)
  (hQ : ∀ c a w, Q (.panic c) (a.put (some d) v) w → Q (.panic c) a w := by exact fun _ _ _ h => h) (hy : YieldsIf P ops S oi v a := by exact Or.inl ⟨by rfl, by rintro w' ⟨s0, s1, s2⟩; go_simp; with_reducible rfl⟩) (hN : oi.dst = some d := by rfl) (ha : a.put (some d) v = a' := by simp only [putW]; rfl) : wpAnyLast P md ops Q S ds (fuel + 1) (bits n m) a w := take_ (bits n (m ||| (1 <<< i))) hi hN hc (by rw [hN]; exact hQ) hy hS ha h
theorem t4_ (hS : S w) (h : wpAnyLast P md ops Q S ds fuel (bits n (m ||| (1 <<< i))) a' w) (hi : ops[i]? = some oi := by rfl) (hc : takeB md ops ds (bits n m) (bits n (m ||| (1 <<< i))) i = true := by kernel_rfl)
  (hQ : ∀ c a w, Q (.panic c) (a.put (some d) v) w → Q (.panic c) a w := by exact fun _ _ _ h => h) (hy : YieldsIf P ops S oi v a := by exact Or.inl ⟨by rfl, by rintro w' ⟨s0, s1, s2, s3⟩; go_simp; with_reducible rfl⟩) (hN : oi.dst = some d := by rfl) (ha : a.put (some d) v = a' := by simp only [putW]; rfl) : wpAnyLast P md ops Q S ds (fuel + 1) (bits n m) a w := take_ (bits n (m ||| (1 <<< i))) hi hN hc (by rw [hN]; exact hQ) hy hS ha h
theorem t5_ (hS : S w) (h : wpAnyLast P md ops Q S ds fuel (bits n (m ||| (1 <<< i))) a' w) (hi : ops[i]? = some oi := by rfl) (hc : takeB md ops ds (bits n m) (bits n (m ||| (1 <<< i))) i = true := by kernel_rfl)
  (hQ : ∀ c a w, Q (.panic c) (a.put (some d) v) w → Q (.panic c) a w := by exact fun _ _ _ h => h) (hy : YieldsIf P ops S oi v a := by exact Or.inl ⟨by rfl, by rintro w' ⟨s0, s1, s2, s3, s4⟩; go_simp; with_reducible rfl⟩) (hN : oi.dst = some d := by rfl) (ha : a.put (some d) v = a' := by simp only [putW]; rfl) : wpAnyLast P md ops Q S ds (fuel + 1) (bits n m) a w := take_ (bits n (m ||| (1 <<< i))) hi hN hc (by rw [hN]; exact hQ) hy hS ha h
theorem t6_ (hS : S w) (h : wpAnyLast P md ops Q S ds fuel (bits n (m ||| (1 <<< i))) a' w) (hi : ops[i]? = some oi := by rfl) (hc : takeB md ops ds (bits n m) (bits n (m ||| (1 <<< i))) i = true := by kernel_rfl)
  (hQ : ∀ c a w, Q (.panic c) (a.put (some d) v) w → Q (.panic c) a w := by exact fun _ _ _ h => h) (hy : YieldsIf P ops S oi v a := by exact Or.inl ⟨by rfl, by rintro w' ⟨s0, s1, s2, s3, s4, s5⟩; go_simp; with_reducible rfl⟩) (hN : oi.dst = some d := by rfl) (ha : a.put (some d) v = a' := by simp only [putW]; rfl) : wpAnyLast P md ops Q S ds (fuel + 1) (bits n m) a w := take_ (bits n (m ||| (1 <<< i))) hi hN hc (by rw [hN]; exact hQ) hy hS ha h
theorem q_ {T} (HT : Aside0 (rtab md ops = T)) (h : wpAnyLast P md ops Q S ds fuel (bits n (m ||| (1 <<< i))) a' w) (hi : ops[i]? = some oi := by rfl) (hc : anyT T (bits n m).toList (bits n (m ||| (1 <<< i))).toList i = true := by kernel_rfl)
  (hQ : ∀ c a w, Q (.panic c) (a.put (some d) v) w → Q (.panic c) a w := by exact fun _ _ _ h => h) (hy : Yields P ops oi v a := by exact Or.inl ⟨by rfl, by intro w'; go_simp; with_reducible rfl⟩) (hN : oi.dst = some d := by rfl) (ha : a.put (some d) v = a' := by simp only [putW]; rfl) : wpAnyLast P md ops Q S ds (fuel + 1) (bits n m) a w := p_ i d h hi (any_of HT.out hc) hQ hy hN ha
theorem r2_ {T} {B : List Nat} (HT : Aside0 (rtab md ops = T)) (HB : Aside0 (waitsOk T.2 B = true)) (hS : S w) (h : wpAnyLast P md ops Q S ds fuel (bits n (m ||| (1 <<< i))) a' w) (hi : ops[i]? = some oi := by rfl) (hc : takeW T B ds (bits n m).toList (bits n (m ||| (1 <<< i))).toList i = true := by kernel_rfl)
  (hQ : ∀ c a w, Q (.panic c) (a.put (some d) v) w → Q (.panic c) a w := by exact fun _ _ _ h => h) (hy : YieldsIf P ops S oi v a := by exact Or.inl ⟨by rfl, by rintro w' ⟨s0, s1⟩; go_simp; with_reducible rfl⟩) (hN : oi.dst = some d := by rfl) (ha : a.put (some d) v = a' := by simp only [putW]; rfl) : wpAnyLast P md ops Q S ds (fuel + 1) (bits n m) a w := take_ (bits n (m ||| (1 <<< i))) hi hN (take_ofW HT.out HB.out hc) (by rw [hN]; exact hQ) hy hS ha h
theorem r3_ {T} {B : List Nat} (HT : Aside0 (rtab md ops = T)) (HB : Aside0 (waitsOk T.2 B = true)) (hS : S w) (h : wpAnyLast P md ops Q S ds fuel (bits n (m ||| (1 <<< i))) a' w) (hi : ops[i]? = some oi := by rfl) (hc : takeW T B ds (bits n m).toList (bits n (m ||| (1 <<< i))).toList i = true := by kernel_rfl)
  (hQ : ∀ c a w, Q (.panic c) (a.put (some d) v) w → Q (.panic c) a w := by exact fun _ _ _ h => h) (hy : YieldsIf P ops S oi v a := by exact Or.inl ⟨by rfl, by rintro w' ⟨s0, s1, s2⟩; go_simp; with_reducible rfl⟩) (hN : oi.dst = some d := by rfl) (ha : a.put (some d) v = a' := by simp only [putW]; rfl) : wpAnyLast P md ops Q S ds (fuel + 1) (bits n m) a w := take_ (bits n (m ||| (1 <<< i))) hi hN (take_ofW HT.out HB.out hc) (by rw [hN]; exact hQ) hy hS ha h
theorem o_ (h : ∀ K : Act → World → Prop, Shut (∀ a' w', S w' → (S w' → wpAnyLast P md ops Q S ds fuel (bits n (m ||| (1 <<< i))) a' w') → K a' w') → if Region.wanted oi (yielded ops a.tmps) = true then Oper.wp P oi a w K Q else K (a.put (some d) undef) w)
  (hi : ops[i]? = some oi := by rfl) (hN : oi.dst = some d := by rfl) (hc : readyB md ops (bits n m) (bits n (m ||| (1 <<< i))) i = true := by kernel_rfl) (hd : i ∉ ds := by decide) : wpAnyLast P md ops Q S ds (fuel + 1) (bits n m) a w := one_ (bits n (m ||| (1 <<< i))) hi hN hc hd h
theorem l_ (h : ∀ K : Act → World → Prop, Shut (∀ a' w', wpAnyLast P md ops Q S ds fuel (bits n (m ||| (1 <<< i))) a' w' → K a' w') → if Region.wanted oi (yielded ops a.tmps) = true then Oper.wp P oi a w K Q else K (a.put none undef) w)
  (hi : ops[i]? = some oi := by rfl) (hN : oi.dst = none := by rfl) (hc : readyB md ops (bits n m) (bits n (m ||| (1 <<< i))) i = true := by kernel_rfl) (hd : i ∈ ds := by decide) : wpAnyLast P md ops Q S ds (fuel + 1) (bits n m) a w := last_ (bits n (m ||| (1 <<< i))) hi hN hc hd h
theorem ld_ (h : ∀ K : Act → World → Prop, Shut (∀ a' w', wpAnyLast P md ops Q S ds fuel (bits n (m ||| (1 <<< i))) a' w' → K a' w') → if Region.wanted oi (yielded ops a.tmps) = true then Oper.wp P oi a w K Q else K (a.put (some d) undef) w)
  (hi : ops[i]? = some oi := by rfl) (hN : oi.dst = some d := by rfl) (hc : readyB md ops (bits n m) (bits n (m ||| (1 <<< i))) i = true := by kernel_rfl) (hd : i ∈ ds := by decide) : wpAnyLast P md ops Q S ds (fuel + 1) (bits n m) a w := last_ (bits n (m ||| (1 <<< i))) hi hN hc hd h
end
theorem n_ (d : Nat) {fuel : Nat} {l : Array Bool} {a a0 a' : Act} {v : Value} {w : World} (h : wpAnyLast P md ops Q S ds fuel l a' w) (hd : a = Act.put a0 (some d) v := by rfl) (ha : Act.put a0 (some d) v = a' := by simp only [putW]; rfl) : wpAnyLast P md ops Q S ds fuel l a w := norm_ (hd.trans ha) h
theorem d_ {n : Nat} {l : Array Bool} {a : Act} {w : World} (h : Q .normal a w) (hr : (Region.ready md ops l == []) = true := by kernel_rfl) : wpAnyLast P md ops Q S ds n l a w := done_ hr h
end
open Go.RowKit Go.Proofs.YtfnophaiamkmpaaW.PrintWords
def Wf (k : IntKind) (n : Int) : Prop := (Lit.int k n).wf = true
theorem Wf.i64 {n : Int} : Wf .i64 n ↔ -9223372036854775808 ≤ n ∧ n ≤ 9223372036854775807 := by
 unfold Wf
 simp [Lit.wf, IntKind.min, IntKind.max, IntKind.signed, IntKind.bits]
def Light {H : Type} (P : Program) (t : TypeId) (d : DataW H) : Prop := ∀ n ∈ d.weights P t, n ≤ 140737488351232
def Opens {α : Type} (P : Program) (d : Kd α) (t : TypeId) (G : α → Prop) : Prop :=
 ∀ {H : Type} (enc : TypeId × Value → H) (w : World) (base : Nat) (spare : Nat → Bool) (held : Bool) (fuel : Nat) (cs : List Value) (x : DataW H × List MemPlace),
  DataW.trod enc P w base spare held fuel t cs = some x → Light P t x.1 → ∃ v : α, d.K w v cs ∧ G v
theorem opens_int {P : Program} {t : TypeId} {k : IntKind} (ht : P.underlying t = some (.int k)) : Opens P (Kd.int k) t (Wf k) := by
 intro H enc w base spare held fuel cs x h _
 obtain ⟨n, rfl, _, hw⟩ := DataW.trod_int ht h
 exact ⟨n, rfl, hw⟩
theorem opens_iso {α β : Type} {P : Program} {t : TypeId} {d : Kd α} {G : α → Prop} (f : β → α) (g : α → β) (hfg : ∀ a, f (g a) = a) (h : Opens P d t G) : Opens P (Kd.iso d f) t (fun x => G (f x)) := by
 intro H enc w base spare held fuel cs x hx hw
 obtain ⟨v, hk, hg⟩ := h enc w base spare held fuel cs x hx hw
 exact ⟨g v, show d.K w (f (g v)) cs by rw [hfg]; exact hk, by show G (f (g v)); rw [hfg]; exact hg⟩
theorem light_all {H : Type} {P : Program} {e : TypeId} : ∀ {l : List (DataW H)} {d : DataW H}, d ∈ l → ∀ n ∈ d.weights P e, n ∈ DataW.weightsAll P e l
 | y :: r, d, hd, n, hn => by
  unfold DataW.weightsAll
  rw [List.mem_append]
  rcases List.mem_cons.1 hd with rfl | hd
  ·exact .inl hn
  ·exact .inr (light_all hd n hn)
theorem list_of_all {α : Type} {Q : Nat → α → Prop} : ∀ (n : Nat), (∀ i, i < n → ∃ v, Q i v) → ∃ l : List α, l.length = n ∧ ∀ i v, l[i]? = some v → Q i v
 | 0, _ => ⟨[], rfl, fun i v h => by simp at h⟩
 | n + 1, h => by
  obtain ⟨l, hl, hq⟩ := list_of_all n (fun i hi => h i (by omega))
  obtain ⟨v, hv⟩ := h n (by omega)
  refine ⟨l ++ [v], by simp [hl], fun i u hu => ?_⟩
  rcases Nat.lt_or_ge i l.length with hi | hi
  ·rw [List.getElem?_append_left hi] at hu
   exact hq i u hu
  ·rw [List.getElem?_append_right hi] at hu
   have : i = n := by
    have := (List.getElem?_eq_some_iff.1 hu).1
    simp at this
    omega
   subst this
   have : i - l.length = 0 := by omega
   rw [this] at hu
   simp at hu
   subst hu
   exact hv
theorem opens_slice {α : Type} {P : Program} {t e : TypeId} {d : Kd α} {G : α → Prop} (B : Nat) (ht : P.underlying t = some (.slice e)) (hc : P.cellsOf e = d.sz) (hb : P.bytesOf e = B) (h : Opens P d e G) :
  Opens P (Kd.slice e d) t (fun xs => xs.length * B ≤ 140737488351232 ∧ ∀ x ∈ xs, G x) := by
 intro H enc w base spare held fuel cs x hx hw
 rcases DataW.trod_slice ht hx with ⟨rfl, rfl⟩ | ⟨a, len, cap, elems, rest, n, _, rfl, rfl, hba, hl, hm, hel, hget, _, _⟩
 ·exact ⟨[], ⟨none, 0, rfl, Nat.le_refl _, rfl, by simp, fun h0 => absurd h0 (by simp)⟩, by simp, fun x hx => by simp at hx⟩
 ·have hwt : ∀ n ∈ (DataW.slice (elems.map (·.1)) (rest.map (·.1)) : DataW H).weights P t, n ≤ 140737488351232 := hw
  have hdef : (DataW.slice (elems.map (·.1)) (rest.map (·.1)) : DataW H).weights P t = ((elems.map (·.1)).length + (rest.map (·.1)).length) * P.bytesOf e :: (DataW.weightsAll P e (elems.map (·.1)) ++ DataW.weightsAll P e (rest.map (·.1))) := by
   simp [DataW.weights, ht]
  rw [hdef] at hwt
  obtain ⟨xs, hxl, hxq⟩ := list_of_all (Q := fun i v => G v ∧ ∃ c, c.length = d.sz ∧ d.K w v c ∧ ∀ j u, c[j]? = some u → w.cell? (a.add (i * d.sz + j)) = some u) len (fun i hi => by
   have hg := hget i hi
   rw [List.getElem?_eq_getElem (by omega)] at hg
   obtain ⟨c, hc1, hc2⟩ := Option.bind_eq_some_iff.1 hg
   rw [hc] at hc1
   obtain ⟨_, hcl, hat⟩ := World.cells?_some hc1
   obtain ⟨v, hk, hgv⟩ := h enc w base spare held n c _ hc2 (fun q hq => hwt q (List.mem_cons_of_mem _ (List.mem_append_left _ (light_all (List.mem_map.2 ⟨_, List.getElem_mem _, rfl⟩) q hq))))
   refine ⟨v, hgv, c, hcl, hk, fun j u hu => ?_⟩
   have hj : j < d.sz := by
    have := (List.getElem?_eq_some_iff.1 hu).1
    omega
   have := hat j hj
   rw [hu] at this
   rw [← this]
   congr 1
   unfold Addr.add
   by_cases hj0 : j = 0
   ·subst hj0; simp
   ·by_cases hi0 : i * d.sz = 0
    ·simp [hi0, hj0]
    ·simp [hi0, hj0, Nat.add_assoc])
  have hmax : len ≤ 9223372036854775807 := by simp only [maxLen] at hm; omega
  refine ⟨xs, ⟨some a, cap, by rw [hxl], by omega, hxl ▸ rfl, by omega, fun _ => ⟨a, rfl, fun j p hp => (hxq j p hp).2⟩⟩, ?_, fun y hy => ?_⟩
  ·have := hwt _ List.mem_cons_self
   rw [hb] at this
   simp only [List.length_map, hel] at this
   rw [hxl]
   exact Nat.le_trans (Nat.mul_le_mul_right _ (Nat.le_add_right _ _)) this
  ·obtain ⟨i, hi, rfl⟩ := List.mem_iff_getElem.1 hy
   exact (hxq i _ (List.getElem?_eq_getElem hi)).1
def OpensF {α : Type} (P : Program) (d : Kd α) (fs : List Field) (o : Nat) (G : α → Prop) : Prop :=
 ∀ {H : Type} (enc : TypeId × Value → H) (w : World) (base : Nat) (spare : Nat → Bool) (held : Bool) (n : Nat) (cs : List Value) (xs : List (DataW H × List MemPlace)),
  xs.length = fs.length → cs.length = d.sz → (∀ (i : Nat) (f : Field), fs[i]? = some f → DataW.trod enc P w base spare held n f.type ((cs.drop (f.offset - o)).take (P.cellsOf f.type)) = xs[i]?) →
  (∀ (i : Nat) (f : Field) (x : DataW H × List MemPlace), fs[i]? = some f → xs[i]? = some x → Light P f.type x.1) → ∃ v : α, d.K w v cs ∧ G v
theorem opensF_one {α : Type} {P : Program} {d : Kd α} {f : Field} {o : Nat} {G : α → Prop} (ho : f.offset = o) (hc : P.cellsOf f.type = d.sz) (h : Opens P d f.type G) : OpensF P d [f] o G := by
 intro H enc w base spare held n cs xs hl hcs hat hw
 have h0 := hat 0 f rfl
 rw [ho, Nat.sub_self, List.drop_zero, hc, ← hcs, List.take_length] at h0
 have hx : xs[0]? = some (xs[0]'(by rw [hl]; simp)) := List.getElem?_eq_getElem _
 rw [hx] at h0
 exact h enc w base spare held n cs _ h0 (hw 0 f _ rfl hx)
theorem opensF_cons {α β : Type} {P : Program} {a : Kd α} {b : Kd β} {f : Field} {fs : List Field} {o : Nat} {Ga : α → Prop} {Gb : β → Prop} (ho : f.offset = o) (hc : P.cellsOf f.type = a.sz) (hle : ∀ g ∈ fs, o + a.sz ≤ g.offset)
  (h : Opens P a f.type Ga) (h' : OpensF P b fs (o + a.sz) Gb) : OpensF P (Kd.pair a b) (f :: fs) o (fun x => Ga x.1 ∧ Gb x.2) := by
 intro H enc w base spare held n cs xs hl hcs hat hw
 have hcs' : cs.length = a.sz + b.sz := hcs
 match xs, hl with
 | x :: xs, hl =>
  have h0 := hat 0 f rfl
  rw [ho, Nat.sub_self, List.drop_zero, hc] at h0
  obtain ⟨v, hk, hg⟩ := h enc w base spare held n _ _ h0 (hw 0 f x rfl rfl)
  obtain ⟨u, hk', hg'⟩ := h' enc w base spare held n (cs.drop a.sz) xs (by simpa using hl) (by rw [List.length_drop]; omega) (fun i g hi => by
   have h1 := hat (i + 1) g hi
   have hle' := hle g (List.mem_of_getElem? hi)
   rw [List.drop_drop, show a.sz + (g.offset - (o + a.sz)) = g.offset - o by omega]
   exact h1) (fun i g y hi hy => hw (i + 1) g y hi hy)
  exact ⟨(v, u), ⟨cs.take a.sz, cs.drop a.sz, (List.take_append_drop _ _).symm, hk, hk'⟩, hg, hg'⟩
theorem opens_struct {α : Type} {P : Program} {t : TypeId} {d : Kd α} {fs : Array Field} {G : α → Prop} (ht : P.underlying t = some (.struct fs)) (hc : P.cellsOf t = d.sz) (h : OpensF P d fs.toList 0 G) : Opens P d t G := by
 intro H enc w base spare held fuel cs x hx hw
 obtain ⟨xs, n, _, rfl, hl, hlen, hat⟩ := DataW.trod_struct ht hx
 refine h enc w base spare held n cs xs (by simpa using hlen) (hl.trans hc) (fun i f hi => ?_) (fun i f y hi hy q hq => ?_)
 ·rw [Nat.sub_zero]
  exact hat i f (by simpa using hi)
 ·refine hw q ?_
  have : (DataW.agg (xs.map (·.1)) : DataW H).weights P t = DataW.weightsEach P (fs.toList.map (·.type)) (xs.map (·.1)) := by simp [DataW.weights, ht]
  show q ∈ (DataW.agg (xs.map (·.1)) : DataW H).weights P t
  rw [this]
  exact DataW.weights_mem_each (j := i) (t := f.type) (d := y.1) (by rw [List.getElem?_map, hi]; rfl) (by rw [List.getElem?_map, hy]; rfl) q hq
theorem open_param {α : Type} {P : Program} {d : Kd α} {t : TypeId} {G : α → Prop} (O : Opens P d t G) {H : Type} {enc : TypeId × Value → H} {w : World} {base : Nat} {spare : Nat → Bool} {held : Bool} {v : Value} {x : DataW H} {p : List MemPlace} {ts : List TypeId} {ds : List (DataW H)} {j : Nat}
  (hsz : (DataW.weightsEach P ts ds).all (· ≤ reachBytes) = true) (ht : ts[j]? = some t) (hd : ds[j]? = some x) (h : DataW.Trod enc P w base spare held t v x p) : ∃ y : α, d.K w y v.cells.toList ∧ G y := by
 obtain ⟨fuel, hf⟩ := h
 exact O enc w base spare held fuel _ _ hf (fun n hn => by
  have := List.all_eq_true.1 hsz n (DataW.weights_mem_each ht hd n hn)
  have h2 : n ≤ reachBytes := by simpa using this
  exact Nat.le_trans h2 (by decide))
end Go.Proofs.Ytfnophaiamkmpaa.Print
