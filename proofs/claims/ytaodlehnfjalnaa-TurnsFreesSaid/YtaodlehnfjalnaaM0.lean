/- Several texts of this claim in one: HXShort, F13. -/
import Derived.Test.YtaodlehnfjalnaaPrint0
namespace Go.Proofs.Ytaodlehnfjalnaa.Print
open Go.RowKit Go.Proofs.YtaodlehnfjalnaaW.PrintWords Go.Proofs.YtaodlehnfjalnaaW.PrintLast Go.Proofs.YtaodlehnfjalnaaW.PrintMore
set_option linter.unusedVariables false
set_option linter.unusedSimpArgs false
theorem byR {p q : Prop} (h : q) (k : q → p := by intro h_; (with_reducible repeat (first | apply Kd.R_alloc | apply Kd.R_drewN | apply Kd.R_drew)); exact h_) : p := k h
theorem byN {p q : Prop} (h : q) (k : q → p := by intro h_; (with_reducible repeat (first | apply Kd.N_alloc | apply Kd.N_drewN | apply Kd.N_drew)); exact h_) : p := k h
theorem byS {p q : Prop} (h : q) (k : q → p := by intro h_; (with_reducible repeat (first | apply Kd.S_alloc | apply Kd.S_drewN | apply Kd.S_drew)); exact h_) : p := k h
theorem byK {p q : Prop} (h : q) (k : q → p := by intro h_; (with_reducible repeat (first | refine blk_drewN ?_ _ | refine blk_drew ?_ | refine blk_alloc ?_ _)); exact h_) : p := k h
theorem byC {p q : Prop} (h : q) (k : q → p := by intro h_; (repeat (first | exact h_ | (with_reducible refine Kd.C_alloc ?_ _) | (with_reducible refine Kd.C_drewN ?_ _) | (with_reducible refine Kd.C_drew ?_)))) : p := k h
theorem byB {p q : Prop} (h : q) (k : q → p := by intro h_; (repeat (first | (with_reducible first | exact h_ | apply below_alloc | apply pw_below_drewN | apply below_drew1) | exact h_))) : p := k h
theorem byB1 {p q q1 : Prop} (h : q) (h1 : q1) (k : q → q1 → p := by intro h_ h1_; (repeat (first | (with_reducible first | exact h_ | apply below_alloc | apply pw_below_drewN | apply below_drew1 | refine below_set ?_ h1_) | exact h_))) : p := k h h1
theorem byB2 {p q q1 q2 : Prop} (h : q) (h1 : q1) (h2 : q2) (k : q → q1 → q2 → p := by intro h_ h1_ h2_; (repeat (first | (with_reducible first | exact h_ | apply below_alloc | apply pw_below_drewN | apply below_drew1 | refine below_set ?_ h1_ | refine below_set ?_ h2_) | exact h_))) : p := k h h1 h2
theorem byB3 {p q q1 q2 q3 : Prop} (h : q) (h1 : q1) (h2 : q2) (h3 : q3) (k : q → q1 → q2 → q3 → p := by intro h_ h1_ h2_ h3_; (repeat (first | (with_reducible first | exact h_ | apply below_alloc | apply pw_below_drewN | apply below_drew1 | refine below_set ?_ h1_ | refine below_set ?_ h2_ | refine below_set ?_ h3_) | exact h_))) : p := k h h1 h2 h3
theorem odt {p : Prop} [Decidable p] (h : decide p = true := by first | (with_reducible assumption) | assumption) : p := of_decide_eq_true h
theorem byF {p : Prop} (h : p := by first | rfl | (simp; done) | (simp [*]; done)) : p := h
theorem byE {p : Prop} (h : p := by first | rfl | (simp [errW_none, errW_some] <;> rfl) | (simp [*, errW_none, errW_some] <;> rfl)) : p := h
theorem byL {p : Prop} (k : p := by (try simp only [List.map_toArray, List.map_cons, List.map_nil]); first | done | rfl | (simp only [List.length_drop, List.length_take]; rfl)) : p := k
theorem putW : (∀ (a : Act) (v : Value), a.put none v = a) ∧ (∀ (a : Act) (d : Tmp) (v : Value), a.put (some d) v = { a with tmps := a.tmps.setIfInBounds d v }) ∧ (∀ (α : Type) (xs : List α) (i : Nat) (v : α), xs.toArray.setIfInBounds i v = (xs.set i v).toArray) ∧ (∀ (α : Type) (x : α) (xs : List α) (v : α), (x :: xs).set 0 v = v :: xs) ∧ (∀ (α : Type) (x : α) (xs : List α) (n : Nat) (v : α), (x :: xs).set (n + 1) v = x :: xs.set n v) ∧ (∀ n : Int, IntKind.i64.wrap n = Go.RowKit.wrap64 n) ∧ (∀ n : Int, IntKind.i32.wrap n = Go.RowKit.wrap32 n) :=
 ⟨fun _ _ => rfl, fun _ _ _ => rfl, fun _ _ _ _ => List.setIfInBounds_toArray .., fun _ _ _ _ => rfl, fun _ _ _ _ _ => rfl, i64_w, i32_w⟩
def bits (n m : Nat) : Array Bool := ((List.range n).map m.testBit).toArray
section
variable {P : Program} {ops : Array Oper} {Q : Exit → Act → World → Prop} {md : Region.Mode} {S : World → Prop} {ds : List Nat}
theorem s_ {id n : Nat} {a : Act} {w : World} (S : World → Prop) (ds : List Nat) (hS : S w.drew) (h : S w.drew → wpAnyLast P .any ops Q S ds n (bits n 0) a w.drew) (hn : ops.size = n := by rfl) (hm : P.follows .mixedOrders = true := by kernel_rfl) (hl : Array.replicate n false = bits n 0 := by rfl) : (Code.region id ops true).wp P Q a w := start_ (bits n 0) hm hn hl hS h
section
variable (i d : Nat) {n m fuel : Nat} {oi : Oper} {v : Value} {a a' : Act} {w : World}
theorem p_ (h : wpAnyLast P md ops Q S ds fuel (bits n (m ||| (1 <<< i))) a' w) (hi : ops[i]? = some oi := by rfl) (hc : anyB md ops (bits n m) (bits n (m ||| (1 <<< i))) i = true := by kernel_rfl)
  (hQ : ∀ c a w, Q (.panic c) (a.put (some d) v) w → Q (.panic c) a w := by exact fun _ _ _ h => h) (hy : Yields P ops oi v a := by exact Or.inl ⟨by rfl, by intro w'; go_simp; with_reducible rfl⟩) (hN : oi.dst = some d := by rfl) (ha : a.put (some d) v = a' := by simp only [putW]; rfl) : wpAnyLast P md ops Q S ds (fuel + 1) (bits n m) a w := pure_ (bits n (m ||| (1 <<< i))) hi hN hc (by rw [hN]; exact hQ) hy ha h
theorem t1_ (hS : S w) (h : wpAnyLast P md ops Q S ds fuel (bits n (m ||| (1 <<< i))) a' w) (hi : ops[i]? = some oi := by rfl) (hc : takeB md ops ds (bits n m) (bits n (m ||| (1 <<< i))) i = true := by kernel_rfl)
  (hQ : ∀ c a w, Q (.panic c) (a.put (some d) v) w → Q (.panic c) a w := by exact fun _ _ _ h => h) (hy : YieldsIf P ops S oi v a := by exact Or.inl ⟨by rfl, by rintro w' s0; go_simp; with_reducible rfl⟩) (hN : oi.dst = some d := by rfl) (ha : a.put (some d) v = a' := by simp only [putW]; rfl) : wpAnyLast P md ops Q S ds (fuel + 1) (bits n m) a w := take_ (bits n (m ||| (1 <<< i))) hi hN hc (by rw [hN]; exact hQ) hy hS ha h
theorem q_ {T} (HT : Aside0 (rtab md ops = T)) (h : wpAnyLast P md ops Q S ds fuel (bits n (m ||| (1 <<< i))) a' w) (hi : ops[i]? = some oi := by rfl) (hc : anyT T (bits n m).toList (bits n (m ||| (1 <<< i))).toList i = true := by kernel_rfl)
  (hQ : ∀ c a w, Q (.panic c) (a.put (some d) v) w → Q (.panic c) a w := by exact fun _ _ _ h => h) (hy : Yields P ops oi v a := by exact Or.inl ⟨by rfl, by intro w'; go_simp; with_reducible rfl⟩) (hN : oi.dst = some d := by rfl) (ha : a.put (some d) v = a' := by simp only [putW]; rfl) : wpAnyLast P md ops Q S ds (fuel + 1) (bits n m) a w := p_ i d h hi (any_of HT.out hc) hQ hy hN ha
theorem qu_ {T} (HT : Aside0 (rtab md ops = T)) (h : wpAnyLast P md ops Q S ds fuel (bits n (m ||| (1 <<< i))) a' w) (hi : ops[i]? = some oi := by rfl) (hc : anyT T (bits n m).toList (bits n (m ||| (1 <<< i))).toList i = true := by kernel_rfl)
  (hQ : ∀ c a w, Q (.panic c) (a.put (some d) undef) w → Q (.panic c) a w := by exact fun _ _ _ h => h) (hy : Yields P ops oi undef a := by exact Or.inr ⟨by rfl, by rfl⟩) (hN : oi.dst = some d := by rfl) (ha : a.put (some d) undef = a' := by simp only [putW]; rfl) : wpAnyLast P md ops Q S ds (fuel + 1) (bits n m) a w := p_ i d h hi (any_of HT.out hc) hQ hy hN ha
theorem r1_ {T} {B : List Nat} (HT : Aside0 (rtab md ops = T)) (HB : Aside0 (waitsOk T.2 B = true)) (hS : S w) (h : wpAnyLast P md ops Q S ds fuel (bits n (m ||| (1 <<< i))) a' w) (hi : ops[i]? = some oi := by rfl) (hc : takeW T B ds (bits n m).toList (bits n (m ||| (1 <<< i))).toList i = true := by kernel_rfl)
  (hQ : ∀ c a w, Q (.panic c) (a.put (some d) v) w → Q (.panic c) a w := by exact fun _ _ _ h => h) (hy : YieldsIf P ops S oi v a := by exact Or.inl ⟨by rfl, by rintro w' s0; go_simp; with_reducible rfl⟩) (hN : oi.dst = some d := by rfl) (ha : a.put (some d) v = a' := by simp only [putW]; rfl) : wpAnyLast P md ops Q S ds (fuel + 1) (bits n m) a w := take_ (bits n (m ||| (1 <<< i))) hi hN (take_ofW HT.out HB.out hc) (by rw [hN]; exact hQ) hy hS ha h
theorem r2_ {T} {B : List Nat} (HT : Aside0 (rtab md ops = T)) (HB : Aside0 (waitsOk T.2 B = true)) (hS : S w) (h : wpAnyLast P md ops Q S ds fuel (bits n (m ||| (1 <<< i))) a' w) (hi : ops[i]? = some oi := by rfl) (hc : takeW T B ds (bits n m).toList (bits n (m ||| (1 <<< i))).toList i = true := by kernel_rfl)
  (hQ : ∀ c a w, Q (.panic c) (a.put (some d) v) w → Q (.panic c) a w := by exact fun _ _ _ h => h) (hy : YieldsIf P ops S oi v a := by exact Or.inl ⟨by rfl, by rintro w' ⟨s0, s1⟩; go_simp; with_reducible rfl⟩) (hN : oi.dst = some d := by rfl) (ha : a.put (some d) v = a' := by simp only [putW]; rfl) : wpAnyLast P md ops Q S ds (fuel + 1) (bits n m) a w := take_ (bits n (m ||| (1 <<< i))) hi hN (take_ofW HT.out HB.out hc) (by rw [hN]; exact hQ) hy hS ha h
theorem r3_ {T} {B : List Nat} (HT : Aside0 (rtab md ops = T)) (HB : Aside0 (waitsOk T.2 B = true)) (hS : S w) (h : wpAnyLast P md ops Q S ds fuel (bits n (m ||| (1 <<< i))) a' w) (hi : ops[i]? = some oi := by rfl) (hc : takeW T B ds (bits n m).toList (bits n (m ||| (1 <<< i))).toList i = true := by kernel_rfl)
  (hQ : ∀ c a w, Q (.panic c) (a.put (some d) v) w → Q (.panic c) a w := by exact fun _ _ _ h => h) (hy : YieldsIf P ops S oi v a := by exact Or.inl ⟨by rfl, by rintro w' ⟨s0, s1, s2⟩; go_simp; with_reducible rfl⟩) (hN : oi.dst = some d := by rfl) (ha : a.put (some d) v = a' := by simp only [putW]; rfl) : wpAnyLast P md ops Q S ds (fuel + 1) (bits n m) a w := take_ (bits n (m ||| (1 <<< i))) hi hN (take_ofW HT.out HB.out hc) (by rw [hN]; exact hQ) hy hS ha h
theorem r4_ {T} {B : List Nat} (HT : Aside0 (rtab md ops = T)) (HB : Aside0 (waitsOk T.2 B = true)) (hS : S w) (h : wpAnyLast P md ops Q S ds fuel (bits n (m ||| (1 <<< i))) a' w) (hi : ops[i]? = some oi := by rfl) (hc : takeW T B ds (bits n m).toList (bits n (m ||| (1 <<< i))).toList i = true := by kernel_rfl)
  (hQ : ∀ c a w, Q (.panic c) (a.put (some d) v) w → Q (.panic c) a w := by exact fun _ _ _ h => h) (hy : YieldsIf P ops S oi v a := by exact Or.inl ⟨by rfl, by rintro w' ⟨s0, s1, s2, s3⟩; go_simp; with_reducible rfl⟩) (hN : oi.dst = some d := by rfl) (ha : a.put (some d) v = a' := by simp only [putW]; rfl) : wpAnyLast P md ops Q S ds (fuel + 1) (bits n m) a w := take_ (bits n (m ||| (1 <<< i))) hi hN (take_ofW HT.out HB.out hc) (by rw [hN]; exact hQ) hy hS ha h
theorem r7_ {T} {B : List Nat} (HT : Aside0 (rtab md ops = T)) (HB : Aside0 (waitsOk T.2 B = true)) (hS : S w) (h : wpAnyLast P md ops Q S ds fuel (bits n (m ||| (1 <<< i))) a' w) (hi : ops[i]? = some oi := by rfl) (hc : takeW T B ds (bits n m).toList (bits n (m ||| (1 <<< i))).toList i = true := by kernel_rfl)
  (hQ : ∀ c a w, Q (.panic c) (a.put (some d) v) w → Q (.panic c) a w := by exact fun _ _ _ h => h) (hy : YieldsIf P ops S oi v a := by exact Or.inl ⟨by rfl, by rintro w' ⟨s0, s1, s2, s3, s4, s5, s6⟩; go_simp; with_reducible rfl⟩) (hN : oi.dst = some d := by rfl) (ha : a.put (some d) v = a' := by simp only [putW]; rfl) : wpAnyLast P md ops Q S ds (fuel + 1) (bits n m) a w := take_ (bits n (m ||| (1 <<< i))) hi hN (take_ofW HT.out HB.out hc) (by rw [hN]; exact hQ) hy hS ha h
theorem r9_ {T} {B : List Nat} (HT : Aside0 (rtab md ops = T)) (HB : Aside0 (waitsOk T.2 B = true)) (hS : S w) (h : wpAnyLast P md ops Q S ds fuel (bits n (m ||| (1 <<< i))) a' w) (hi : ops[i]? = some oi := by rfl) (hc : takeW T B ds (bits n m).toList (bits n (m ||| (1 <<< i))).toList i = true := by kernel_rfl)
  (hQ : ∀ c a w, Q (.panic c) (a.put (some d) v) w → Q (.panic c) a w := by exact fun _ _ _ h => h) (hy : YieldsIf P ops S oi v a := by exact Or.inl ⟨by rfl, by rintro w' ⟨s0, s1, s2, s3, s4, s5, s6, s7, s8⟩; go_simp; with_reducible rfl⟩) (hN : oi.dst = some d := by rfl) (ha : a.put (some d) v = a' := by simp only [putW]; rfl) : wpAnyLast P md ops Q S ds (fuel + 1) (bits n m) a w := take_ (bits n (m ||| (1 <<< i))) hi hN (take_ofW HT.out HB.out hc) (by rw [hN]; exact hQ) hy hS ha h
theorem o_ (h : ∀ K : Act → World → Prop, Shut (∀ a' w', S w' → (S w' → wpAnyLast P md ops Q S ds fuel (bits n (m ||| (1 <<< i))) a' w') → K a' w') → if Region.wanted oi (yielded ops a.tmps) = true then Oper.wp P oi a w K Q else K (a.put (some d) undef) w)
  (hi : ops[i]? = some oi := by rfl) (hN : oi.dst = some d := by rfl) (hc : readyB md ops (bits n m) (bits n (m ||| (1 <<< i))) i = true := by kernel_rfl) (hd : i ∉ ds := by decide) : wpAnyLast P md ops Q S ds (fuel + 1) (bits n m) a w := one_ (bits n (m ||| (1 <<< i))) hi hN hc hd h
end
theorem n_ (d : Nat) {fuel : Nat} {l : Array Bool} {a a0 a' : Act} {v : Value} {w : World} (h : wpAnyLast P md ops Q S ds fuel l a' w) (hd : a = Act.put a0 (some d) v := by rfl) (ha : Act.put a0 (some d) v = a' := by simp only [putW]; rfl) : wpAnyLast P md ops Q S ds fuel l a w := norm_ (hd.trans ha) h
theorem d_ {n : Nat} {l : Array Bool} {a : Act} {w : World} (h : Q .normal a w) (hr : (Region.ready md ops l == []) = true := by kernel_rfl) : wpAnyLast P md ops Q S ds n l a w := done_ hr h
end
attribute [local go_sem] max2_int min2_int max_two min_two max_three min_three max_four min_four   -- for this text's walks alone
set_option linter.unusedVariables false
set_option linter.unusedSimpArgs false
/-! ### mapmakerlaw47_few: function 13 -/
mutual
def mapmakerlaw47_few.l0 : Nat → List (S42) → Int → List Int → List (S158) → List (S58) → Option (Bool)
 | 0, _, _, _, _, _ => none
 | k + 1, x1, x5, x221000, x221001, x221002 => if x5 < (x221002.length : Int) then (mapmakerlaw47_few.j1 k x1 x5 (decide (x5 < 11)) x221000 x221001 x221002) else (mapmakerlaw47_few.j1 k x1 x5 false x221000 x221001 x221002)
def mapmakerlaw47_few.j1 : Nat → List (S42) → Int → Bool → List Int → List (S158) → List (S58) → Option (Bool)
 | 0, _, _, _, _, _, _ => none
 | k + 1, x1, x5, x14, x221000, x221001, x221002 => if x14 = true then (if 0 ≤ x5 then (if x5 < (x221002.length : Int) then (if (((rd_T58 x221002 x5).f5.f0).length : Int) > 20 then (some false) else (mapmakerlaw47_few.l0 k x1 (wrap64 (x5 + 1)) x221000 x221001 x221002)) else (none)) else (none)) else (if (x221002.length : Int) ≤ 10 then (if (x221000.length : Int) ≤ 12 then (if (x221001.length : Int) ≤ 12 then (some (decide ((x1.length : Int) ≤ 20))) else (some false)) else (some false)) else (some false))
end
def mapmakerlaw47_few.f (k : Nat) (l0_0 : List Int) (l0_1 : List (S158)) (l0_2 : List (S58)) (l1 : List (S42)) : Option (Bool) := mapmakerlaw47_few.l0 k l1 0 l0_0 l0_1 l0_2
set_option maxHeartbeats 8000000 in
set_option maxRecDepth 100000 in
theorem mapmakerlaw47_few.calls (k : Nat) (A0_0 : Option Addr) (c0_0 : Nat) (l0_0 : List Int) (A0_1 : Option Addr) (c0_1 : Nat) (l0_1 : List (S158)) (A0_2 : Option Addr) (c0_2 : Nat) (l0_2 : List (S58)) (A1 : Option Addr) (c1 : Nat) (l1 : List (S42)) (r : Bool) (w : World) (hr0_0 : Kd.C (Kd.int .i64) w A0_0 l0_0.length l0_0) (hc0_0 : l0_0.length ≤ c0_0) (hr0_1 : Kd.C k158 w A0_1 l0_1.length l0_1) (hc0_1 : l0_1.length ≤ c0_1) (hr0_2 : Kd.C k58 w A0_2 l0_2.length l0_2) (hc0_2 : l0_2.length ≤ c0_2) (hr1 : Kd.C k42 w A1 l1.length l1) (hc1 : l1.length ≤ c1) (h : mapmakerlaw47_few.f k l0_0 l0_1 l0_2 l1 = some r) :
  Calls Try.prog 13 #[.agg #[.slice A0_0 l0_0.length c0_0, .slice A0_1 l0_1.length c0_1, .slice A0_2 l0_2.length c0_2], .slice A1 l1.length c1] w fun e w' => e = .returned (.bool r) ∧ Below w.heap.size w w' := by
 have hu37 := Try.underlying37; have HR0_0 := Aside0.mk hr0_0; have HC0_0 := Aside0.mk hc0_0; clear hr0_0 hc0_0; have HR0_1 := Aside0.mk hr0_1; have HC0_1 := Aside0.mk hc0_1; clear hr0_1 hc0_1; have HR0_2 := Aside0.mk hr0_2; have HC0_2 := Aside0.mk hc0_2; clear hr0_2 hc0_2; have HR1 := Aside0.mk hr1; have HC1 := Aside0.mk hc1; clear hr1 hc1; have HB := Aside0.mk (Below.refl w.heap.size w)
 have H : (mapmakerlaw47_few.l0 k l1 0 l0_0 l0_1 l0_2) = some r := h
 clear h
 have H' := Aside0.mk H
 clear H
 go_enter Try.func13, Try.ntmps13
 go_wp2_with (first | ((with_reducible refine gate_dst (N := 2) rfl ?_); (try (refine gate_guard (by rfl) ?_; dsimp only)); refine box_event ?hg (N := 2) ?hd (cs := #[.slice A0_0 l0_0.length c0_0, .slice A0_1 l0_1.length c0_1, .slice A0_2 l0_2.length c0_2]) (t := 37) ?hr ?_; (case hd => rfl); (case hg => rfl); (case hr => first | (go_simp; done) | (go_simp; rfl)); intro gb220 hg w3 hbox hb; have n0_ := Aside0.mk (below_step (byB HB.out) hb); have n1_ := Aside0.mk (hbox); have n2_ := Aside0.mk ((by rw [hg]; exact (below_size (byB HB.out)) : w.heap.size ≤ gb220)); have n3_ := Aside0.mk ((by rw [hg]; exact (below_size (byB HB.out)) : w.heap.size ≤ gb220)); clear HB; have HB := n0_; have BK220 := n1_; have GW220 := n2_; have GE220 := n3_; clear n0_ n1_ n2_ n3_ hb hbox hg))
 go_loopg [5] k (fun kq v5 w' => ∃ (x5_1 : Int), v5 = .int .i64 x5_1 ∧ Aside0 (mapmakerlaw47_few.l0 kq l1 x5_1 l0_0 l0_1 l0_2 = some r) ∧ Aside0 (kq ≤ k) ∧ Aside0 (w'.heap[gb220]? = some (.cells #[(.slice A0_0 l0_0.length c0_0), (.slice A0_1 l0_1.length c0_1), (.slice A0_2 l0_2.length c0_2)] 37 (0, 0))) ∧ Aside0 (Below w.heap.size w w'))
 case atStart => exact ⟨(0), byF, H', ⟨Nat.le_refl _⟩, ⟨by (with_reducible repeat (first | refine blk_drewN ?_ _ | refine blk_drew ?_ | refine blk_alloc ?_ _)); exact BK220.out⟩, ⟨byB1 HB.out GE220.out⟩⟩
 case round =>
  clear H'
  try clear c1
  try clear p2
  obtain ⟨x5_1, rfl, HA, HK1, BK220, HB⟩ := hrel
  cases gk with
  | zero => exact absurd HA.out (by simp [mapmakerlaw47_few.l0])
  | succ k1 =>
   have H := HA.out; clear HA
   simp only [mapmakerlaw47_few.l0] at H
   have HC4 := Aside0.mk H; clear H
   go_upto_region 2 with (fail)
   go_cut [14] (fun v14 wc => ∃ (kq : Nat) (x14_3 : Bool), v14 = .bool x14_3 ∧ Aside0 (mapmakerlaw47_few.j1 kq l1 x5_1 x14_3 l0_0 l0_1 l0_2 = some r) ∧ Aside0 (kq ≤ k1) ∧ Aside0 (wc.heap[gb220]? = some (.cells #[(.slice A0_0 l0_0.length c0_0), (.slice A0_1 l0_1.length c0_1), (.slice A0_2 l0_2.length c0_2)] 37 (0, 0))) ∧ Aside0 (Below w.heap.size w wc))
   case first =>
    have H := HC4.out; clear HC4
    by_cases c5 : x5_1 < (l0_2.length : Int)
    ·rw [if_pos c5] at H
     have c5b0 : decide (x5_1 < (l0_2.length : Int)) = true := decide_eq_true c5
     clear c5
     (first | rw [c5b0] | (simp only [i64_w, i32_w]; rw [c5b0]) | skip)
     have H' := Aside0.mk H
     clear H
     have hcz6_0 : wr.cell? ⟨gb220, 0, none⟩ = some (.slice A0_0 l0_0.length c0_0) := (blk_cell BK220.out 0).trans rfl
     have hcz6_1 : wr.cell? ⟨gb220, 1, none⟩ = some (.slice A0_1 l0_1.length c0_1) := (blk_cell BK220.out 1).trans rfl
     have hcz6_2 : wr.cell? ⟨gb220, 2, none⟩ = some (.slice A0_2 l0_2.length c0_2) := (blk_cell BK220.out 2).trans rfl
     have hfz6_0 := blk_frozen BK220.out 0; have hfz6_1 := blk_frozen BK220.out 1; have hfz6_2 := blk_frozen BK220.out 2
     go_wp2
     go_meet
     case rel => exact ⟨_, (decide (x5_1 < 11)), byF, H', ⟨by have := HK1.out; first | omega | exact Nat.le_refl _⟩, ⟨by (with_reducible repeat (first | refine blk_drewN ?_ _ | refine blk_drew ?_ | refine blk_alloc ?_ _)); exact BK220.out⟩, ⟨byB1 HB.out GE220.out⟩⟩
    ·rw [if_neg c5] at H
     have c5b0 : decide (x5_1 < (l0_2.length : Int)) = false := decide_eq_false c5
     clear c5
     (first | rw [c5b0] | (simp only [i64_w, i32_w]; rw [c5b0]) | skip)
     have H' := Aside0.mk H
     clear H
     have hcz7_0 : wr.cell? ⟨gb220, 0, none⟩ = some (.slice A0_0 l0_0.length c0_0) := (blk_cell BK220.out 0).trans rfl
     have hcz7_1 : wr.cell? ⟨gb220, 1, none⟩ = some (.slice A0_1 l0_1.length c0_1) := (blk_cell BK220.out 1).trans rfl
     have hcz7_2 : wr.cell? ⟨gb220, 2, none⟩ = some (.slice A0_2 l0_2.length c0_2) := (blk_cell BK220.out 2).trans rfl
     have hfz7_0 := blk_frozen BK220.out 0; have hfz7_1 := blk_frozen BK220.out 1; have hfz7_2 := blk_frozen BK220.out 2
     go_wp2
     go_meet
     case rel => exact ⟨_, (false), byF, H', ⟨by have := HK1.out; first | omega | exact Nat.le_refl _⟩, ⟨by (with_reducible repeat (first | refine blk_drewN ?_ _ | refine blk_drew ?_ | refine blk_alloc ?_ _)); exact BK220.out⟩, ⟨byB1 HB.out GE220.out⟩⟩
   case rest =>
    clear HC4
    try clear c1
    try clear p2
    try clear c5
    try clear c5b0
    try clear hcz6_0
    try clear hcz6_1
    try clear hcz6_2
    try clear hcz7_0
    try clear hcz7_1
    try clear hcz7_2
    try clear hfz6_0
    try clear hfz6_1
    try clear hfz6_2
    try clear hfz7_0
    try clear hfz7_1
    try clear hfz7_2
    try clear p2
    obtain ⟨kq, x14_3, rfl, HA, HJ3, BK220, HB⟩ := hcut
    cases kq with
    | zero => exact absurd HA.out (by simp [mapmakerlaw47_few.j1])
    | succ kj3 =>
     have H := HA.out; clear HA
     simp only [mapmakerlaw47_few.j1] at H
     by_cases c8 : x14_3 = true
     ·subst c8
      have H1 : (if 0 ≤ x5_1 then (if x5_1 < (l0_2.length : Int) then (if (((rd_T58 l0_2 x5_1).f5.f0).length : Int) > 20 then (some false) else (mapmakerlaw47_few.l0 kj3 l1 (wrap64 (x5_1 + 1)) l0_0 l0_1 l0_2)) else (none)) else (none)) = some r := by rw [if_pos rfl] at H; exact H
      clear H; have H := H1; clear H1
      by_cases c9 : 0 ≤ x5_1
      ·rw [if_pos c9] at H
       have c9b0 : decide (0 ≤ x5_1) = true := decide_eq_true c9
       clear c9
       by_cases c10 : x5_1 < (l0_2.length : Int)
       ·rw [if_pos c10] at H
        have c10b0 : decide (x5_1 < (l0_2.length : Int)) = true := decide_eq_true c10
        clear c10
        by_cases c11 : (((rd_T58 l0_2 x5_1).f5.f0).length : Int) > 20
        ·rw [if_pos c11] at H
         have c11b0 : decide (20 < (((rd_T58 l0_2 x5_1).f5.f0).length : Int)) = true := decide_eq_true c11
         have c11b1 : decide (20 < ((rd_T58 l0_2 x5_1).f5.f0).length) = true := decide_eq_true (by omega)
         clear c11
         obtain rfl := Option.some.inj H
         have hcz12_0 : wc.cell? ⟨gb220, 0, none⟩ = some (.slice A0_0 l0_0.length c0_0) := (blk_cell BK220.out 0).trans rfl
         have hcz12_1 : wc.cell? ⟨gb220, 1, none⟩ = some (.slice A0_1 l0_1.length c0_1) := (blk_cell BK220.out 1).trans rfl
         have hcz12_2 : wc.cell? ⟨gb220, 2, none⟩ = some (.slice A0_2 l0_2.length c0_2) := (blk_cell BK220.out 2).trans rfl
         have hfz12_0 := blk_frozen BK220.out 0; have hfz12_1 := blk_frozen BK220.out 1; have hfz12_2 := blk_frozen BK220.out 2
         have p221 : 0 ≤ (x5_1 : Int) := odt
         have q221 : x5_1 < (l0_2.length : Int) := odt
         obtain ⟨ad221, A221_5, c221_5, e221, hx221_0, hx221_1, hx221_2, hx221_3, hx221_4, hx221_5, hx221_6, hx221_7, hl221_5, hi221_5⟩ := at_T58 HR0_2.out x5_1 p221 q221
         cases e221
         replace hx221_0 := (HB.out.cell (World.block_lt_of_cell? w _ hx221_0)).trans hx221_0
         replace hx221_1 := (HB.out.cell (World.block_lt_of_cell? w _ hx221_1)).trans hx221_1
         replace hx221_2 := (HB.out.cell (World.block_lt_of_cell? w _ hx221_2)).trans hx221_2
         replace hx221_3 := (HB.out.cell (World.block_lt_of_cell? w _ hx221_3)).trans hx221_3
         replace hx221_4 := (HB.out.cell (World.block_lt_of_cell? w _ hx221_4)).trans hx221_4
         replace hx221_5 := (HB.out.cell (World.block_lt_of_cell? w _ hx221_5)).trans hx221_5
         replace hx221_6 := (HB.out.cell (World.block_lt_of_cell? w _ hx221_6)).trans hx221_6
         replace hx221_7 := (HB.out.cell (World.block_lt_of_cell? w _ hx221_7)).trans hx221_7
         have HR221_5 := Aside0.mk hi221_5; have HC221_5 := Aside0.mk hl221_5; clear hi221_5 hl221_5; replace p221 := eq_true p221; replace q221 := eq_true q221
         go_wp2
         go_ret
         exact ⟨byE, byB1 HB.out GE220.out⟩
        ·rw [if_neg c11] at H
         have c11b0 : decide (20 < (((rd_T58 l0_2 x5_1).f5.f0).length : Int)) = false := decide_eq_false c11
         have c11b1 : decide (20 < ((rd_T58 l0_2 x5_1).f5.f0).length) = false := decide_eq_false (by omega)
         clear c11
         have H' := Aside0.mk H
         clear H
         have hcz13_0 : wc.cell? ⟨gb220, 0, none⟩ = some (.slice A0_0 l0_0.length c0_0) := (blk_cell BK220.out 0).trans rfl
         have hcz13_1 : wc.cell? ⟨gb220, 1, none⟩ = some (.slice A0_1 l0_1.length c0_1) := (blk_cell BK220.out 1).trans rfl
         have hcz13_2 : wc.cell? ⟨gb220, 2, none⟩ = some (.slice A0_2 l0_2.length c0_2) := (blk_cell BK220.out 2).trans rfl
         have hfz13_0 := blk_frozen BK220.out 0; have hfz13_1 := blk_frozen BK220.out 1; have hfz13_2 := blk_frozen BK220.out 2
         have p221 : 0 ≤ (x5_1 : Int) := odt
         have q221 : x5_1 < (l0_2.length : Int) := odt
         obtain ⟨ad221, A221_5, c221_5, e221, hx221_0, hx221_1, hx221_2, hx221_3, hx221_4, hx221_5, hx221_6, hx221_7, hl221_5, hi221_5⟩ := at_T58 HR0_2.out x5_1 p221 q221
         cases e221
         replace hx221_0 := (HB.out.cell (World.block_lt_of_cell? w _ hx221_0)).trans hx221_0
         replace hx221_1 := (HB.out.cell (World.block_lt_of_cell? w _ hx221_1)).trans hx221_1
         replace hx221_2 := (HB.out.cell (World.block_lt_of_cell? w _ hx221_2)).trans hx221_2
         replace hx221_3 := (HB.out.cell (World.block_lt_of_cell? w _ hx221_3)).trans hx221_3
         replace hx221_4 := (HB.out.cell (World.block_lt_of_cell? w _ hx221_4)).trans hx221_4
         replace hx221_5 := (HB.out.cell (World.block_lt_of_cell? w _ hx221_5)).trans hx221_5
         replace hx221_6 := (HB.out.cell (World.block_lt_of_cell? w _ hx221_6)).trans hx221_6
         replace hx221_7 := (HB.out.cell (World.block_lt_of_cell? w _ hx221_7)).trans hx221_7
         have HR221_5 := Aside0.mk hi221_5; have HC221_5 := Aside0.mk hl221_5; clear hi221_5 hl221_5; replace p221 := eq_true p221; replace q221 := eq_true q221
         go_wp2
         go_roundg kj3
         case measure => have := HK1.out; have := HJ3.out; omega
         case rel => exact ⟨(wrap64 (x5_1 + 1)), byF, H', ⟨by have := HK1.out; have := HJ3.out; omega⟩, ⟨by (with_reducible repeat (first | refine blk_drewN ?_ _ | refine blk_drew ?_ | refine blk_alloc ?_ _)); exact BK220.out⟩, ⟨byB1 HB.out GE220.out⟩⟩
       ·rw [if_neg c10] at H
        exact absurd H (by simp)
      ·rw [if_neg c9] at H
       exact absurd H (by simp)
     ·replace c8 := Bool.eq_false_iff.mpr c8
      subst c8
      have H1 : (if (l0_2.length : Int) ≤ 10 then (if (l0_0.length : Int) ≤ 12 then (if (l0_1.length : Int) ≤ 12 then (some (decide ((l1.length : Int) ≤ 20))) else (some false)) else (some false)) else (some false)) = some r := by rw [if_neg (show ¬ (false = true) by decide)] at H; exact H
      clear H; have H := H1; clear H1
      by_cases c14 : (l0_2.length : Int) ≤ 10
      ·rw [if_pos c14] at H
       have c14b0 : decide ((l0_2.length : Int) ≤ 10) = true := decide_eq_true c14
       have c14b1 : decide (l0_2.length ≤ 10) = true := decide_eq_true (by omega)
       clear c14
       by_cases c15 : (l0_0.length : Int) ≤ 12
       ·rw [if_pos c15] at H
        have c15b0 : decide ((l0_0.length : Int) ≤ 12) = true := decide_eq_true c15
        have c15b1 : decide (l0_0.length ≤ 12) = true := decide_eq_true (by omega)
        clear c15
        by_cases c16 : (l0_1.length : Int) ≤ 12
        ·rw [if_pos c16] at H
         have c16b0 : decide ((l0_1.length : Int) ≤ 12) = true := decide_eq_true c16
         have c16b1 : decide (l0_1.length ≤ 12) = true := decide_eq_true (by omega)
         clear c16
         obtain rfl := Option.some.inj H
         have hcz17_0 : wc.cell? ⟨gb220, 0, none⟩ = some (.slice A0_0 l0_0.length c0_0) := (blk_cell BK220.out 0).trans rfl
         have hcz17_1 : wc.cell? ⟨gb220, 1, none⟩ = some (.slice A0_1 l0_1.length c0_1) := (blk_cell BK220.out 1).trans rfl
         have hcz17_2 : wc.cell? ⟨gb220, 2, none⟩ = some (.slice A0_2 l0_2.length c0_2) := (blk_cell BK220.out 2).trans rfl
         have hfz17_0 := blk_frozen BK220.out 0; have hfz17_1 := blk_frozen BK220.out 1; have hfz17_2 := blk_frozen BK220.out 2
         go_wp2
         go_ret
         exact ⟨byE, byB1 HB.out GE220.out⟩
        ·rw [if_neg c16] at H
         have c16b0 : decide ((l0_1.length : Int) ≤ 12) = false := decide_eq_false c16
         have c16b1 : decide (l0_1.length ≤ 12) = false := decide_eq_false (by omega)
         clear c16
         obtain rfl := Option.some.inj H
         have hcz18_0 : wc.cell? ⟨gb220, 0, none⟩ = some (.slice A0_0 l0_0.length c0_0) := (blk_cell BK220.out 0).trans rfl
         have hcz18_1 : wc.cell? ⟨gb220, 1, none⟩ = some (.slice A0_1 l0_1.length c0_1) := (blk_cell BK220.out 1).trans rfl
         have hcz18_2 : wc.cell? ⟨gb220, 2, none⟩ = some (.slice A0_2 l0_2.length c0_2) := (blk_cell BK220.out 2).trans rfl
         have hfz18_0 := blk_frozen BK220.out 0; have hfz18_1 := blk_frozen BK220.out 1; have hfz18_2 := blk_frozen BK220.out 2
         go_wp2
         go_ret
         exact ⟨byE, byB1 HB.out GE220.out⟩
       ·rw [if_neg c15] at H
        have c15b0 : decide ((l0_0.length : Int) ≤ 12) = false := decide_eq_false c15
        have c15b1 : decide (l0_0.length ≤ 12) = false := decide_eq_false (by omega)
        clear c15
        obtain rfl := Option.some.inj H
        have hcz19_0 : wc.cell? ⟨gb220, 0, none⟩ = some (.slice A0_0 l0_0.length c0_0) := (blk_cell BK220.out 0).trans rfl
        have hcz19_1 : wc.cell? ⟨gb220, 1, none⟩ = some (.slice A0_1 l0_1.length c0_1) := (blk_cell BK220.out 1).trans rfl
        have hcz19_2 : wc.cell? ⟨gb220, 2, none⟩ = some (.slice A0_2 l0_2.length c0_2) := (blk_cell BK220.out 2).trans rfl
        have hfz19_0 := blk_frozen BK220.out 0; have hfz19_1 := blk_frozen BK220.out 1; have hfz19_2 := blk_frozen BK220.out 2
        go_wp2
        go_ret
        exact ⟨byE, byB1 HB.out GE220.out⟩
      ·rw [if_neg c14] at H
       have c14b0 : decide ((l0_2.length : Int) ≤ 10) = false := decide_eq_false c14
       have c14b1 : decide (l0_2.length ≤ 10) = false := decide_eq_false (by omega)
       clear c14
       obtain rfl := Option.some.inj H
       have hcz20_0 : wc.cell? ⟨gb220, 0, none⟩ = some (.slice A0_0 l0_0.length c0_0) := (blk_cell BK220.out 0).trans rfl
       have hcz20_1 : wc.cell? ⟨gb220, 1, none⟩ = some (.slice A0_1 l0_1.length c0_1) := (blk_cell BK220.out 1).trans rfl
       have hcz20_2 : wc.cell? ⟨gb220, 2, none⟩ = some (.slice A0_2 l0_2.length c0_2) := (blk_cell BK220.out 2).trans rfl
       have hfz20_0 := blk_frozen BK220.out 0; have hfz20_1 := blk_frozen BK220.out 1; have hfz20_2 := blk_frozen BK220.out 2
       go_wp2
       go_ret
       exact ⟨byE, byB1 HB.out GE220.out⟩
end Go.Proofs.Ytaodlehnfjalnaa.Print
