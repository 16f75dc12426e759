/- Several texts of this claim in one: HQRel, HXPar, HXPair, HKHier. -/
import Derived.Test.YtfnophaiamkmpaaM5
import Derived.Test.YtfnophaiamkmpaaM1
import Derived.Test.YtfnophaiamkmpaaM0
import Derived.ChangeKeysEq
import Derived.Test.YtfnophaiamkmpaaPrint0
namespace Go.Proofs.Ytfnophaiamkmpaa.Print
open Go.RowKit Go.Proofs.YtfnophaiamkmpaaW.PrintWords Go.Proofs.YtfnophaiamkmpaaW.PrintLast Go.Proofs.YtfnophaiamkmpaaW.PrintMore
set_option linter.unusedVariables false
set_option linter.unusedSimpArgs false
theorem mset2r {M : Mat} {u x a b : Nat} : mset (mset M u x) x u a b = true ↔ M a b = true ∨ (a = u ∧ b = x) ∨ (a = x ∧ b = u) := by
 unfold mset
 by_cases h1 : a = x ∧ b = u
 ·simp [h1]
 ·by_cases h2 : a = u ∧ b = x
  ·rw [if_neg h1, if_pos h2]
   exact ⟨fun _ => .inr (.inl h2), fun _ => rfl⟩
  ·rw [if_neg h1, if_neg h2]
   constructor
   ·exact .inl
   ·rintro (h | h | h)
    ·exact h
    ·exact absurd h h2
    ·exact absurd h h1
def CndR (M : Mat) (g : Nat → Bool) (v a b : Nat) : Prop := M v a = true ∧ M v b = true ∧ g a = false ∧ g b = false
theorem bool_iffr {a b : Bool} (h : a = true ↔ b = true) : a = b := by
 cases a <;> cases b <;> simp_all
theorem tIn_mem {v u n : Nat} {g : Nat → Bool} (hv : g v = true) : ∀ (d x : Nat) (M : Mat) (c : Int), x + d = n → u < x → (∀ a b, M a b = true → M b a = true) →
  ∀ a b, (tIn v u g d x M c).1 a b = true ↔ M a b = true ∨ (((a = u ∧ x ≤ b ∧ b < n) ∨ (b = u ∧ x ≤ a ∧ a < n)) ∧ CndR M g v a b)
 | 0, x, M, c, h, hux, hs, a, b => by
  show M a b = true ↔ _
  constructor
  ·exact .inl
  ·rintro (h1 | ⟨⟨_, h1, h2⟩ | ⟨_, h1, h2⟩, _⟩)
   ·exact h1
   ·omega
   ·omega
 | d + 1, x, M, c, h, hux, hs, a, b => by
  unfold tIn
  by_cases hp : M v u = true ∧ M v x = true ∧ g u = false ∧ g x = false ∧ M u x = false
  ·rw [if_pos hp]
   have hs1 : ∀ a b, mset (mset M u x) x u a b = true → mset (mset M u x) x u b a = true := fun a b hab => by
    rw [mset2r] at hab ⊢
    rcases hab with h1 | h1 | h1
    ·exact .inl (hs a b h1)
    ·exact .inr (.inr ⟨h1.2, h1.1⟩)
    ·exact .inr (.inl ⟨h1.2, h1.1⟩)
   have hvu : v ≠ u := fun e => by rw [e] at hv; rw [hp.2.2.1] at hv; cases hv
   have hvx : v ≠ x := fun e => by rw [e] at hv; rw [hp.2.2.2.1] at hv; cases hv
   have hrow : ∀ a, mset (mset M u x) x u v a = M v a := fun a => bool_iffr (by
    rw [mset2r]
    constructor
    ·rintro (h1 | h1 | h1)
     ·exact h1
     ·exact absurd h1.1 hvu
     ·exact absurd h1.1 hvx
    ·exact .inl)
   have hcnd : ∀ a b, CndR (mset (mset M u x) x u) g v a b ↔ CndR M g v a b := fun a b => by
    unfold CndR
    rw [hrow, hrow]
   have h1 := tIn_mem (u := u) (n := n) hv d (x + 1) (mset (mset M u x) x u) (wrap64 (c + 1)) (by omega) (by omega) hs1
   rw [h1 a b, mset2r, hcnd]
   constructor
   ·rintro ((h3 | ⟨rfl, rfl⟩ | ⟨rfl, rfl⟩) | ⟨⟨rfl, h3, h4⟩ | ⟨rfl, h3, h4⟩, h5⟩)
    ·exact .inl h3
    ·exact .inr ⟨.inl ⟨rfl, Nat.le_refl _, by omega⟩, hp.1, hp.2.1, hp.2.2.1, hp.2.2.2.1⟩
    ·exact .inr ⟨.inr ⟨rfl, Nat.le_refl _, by omega⟩, hp.2.1, hp.1, hp.2.2.2.1, hp.2.2.1⟩
    ·exact .inr ⟨.inl ⟨rfl, by omega, h4⟩, h5⟩
    ·exact .inr ⟨.inr ⟨rfl, by omega, h4⟩, h5⟩
   ·rintro (h3 | ⟨⟨rfl, h3, h4⟩ | ⟨rfl, h3, h4⟩, h5⟩)
    ·exact .inl (.inl h3)
    ·by_cases e : b = x
     ·exact .inl (.inr (.inl ⟨rfl, e⟩))
     ·exact .inr ⟨.inl ⟨rfl, by omega, h4⟩, h5⟩
    ·by_cases e : a = x
     ·exact .inl (.inr (.inr ⟨e, rfl⟩))
     ·exact .inr ⟨.inr ⟨rfl, by omega, h4⟩, h5⟩
  ·rw [if_neg hp]
   have h1 := tIn_mem (u := u) (n := n) hv d (x + 1) M c (by omega) (by omega) hs
   rw [h1 a b]
   constructor
   ·rintro (h3 | ⟨⟨rfl, h3, h4⟩ | ⟨rfl, h3, h4⟩, h5⟩)
    ·exact .inl h3
    ·exact .inr ⟨.inl ⟨rfl, by omega, h4⟩, h5⟩
    ·exact .inr ⟨.inr ⟨rfl, by omega, h4⟩, h5⟩
   ·have hno : CndR M g v u x → M u x = true := fun h3 => by
     cases hm : M u x with
     | true => rfl
     | false => exact absurd ⟨h3.1, h3.2.1, h3.2.2.1, h3.2.2.2, hm⟩ hp
    rintro (h3 | ⟨⟨rfl, h3, h4⟩ | ⟨rfl, h3, h4⟩, h5⟩)
    ·exact .inl h3
    ·by_cases e : b = x
     ·subst e
      exact .inl (hno h5)
     ·exact .inr ⟨.inl ⟨rfl, by omega, h4⟩, h5⟩
    ·by_cases e : a = x
     ·subst e
      exact .inl (hs _ _ (hno ⟨h5.2.1, h5.1, h5.2.2.2, h5.2.2.1⟩))
     ·exact .inr ⟨.inr ⟨rfl, by omega, h4⟩, h5⟩
theorem tOut_mem {v n : Nat} {g : Nat → Bool} (hv : g v = true) : ∀ (d u : Nat) (M : Mat) (c : Int), u + d = n → (∀ a b, M a b = true → M b a = true) →
  ∀ a b, (tOut v n g d u M c).1 a b = true ↔ M a b = true ∨ (u ≤ a ∧ u ≤ b ∧ a < n ∧ b < n ∧ a ≠ b ∧ CndR M g v a b)
 | 0, u, M, c, h, hs, a, b => by
  show M a b = true ↔ _
  constructor
  ·exact .inl
  ·rintro (h1 | ⟨h1, h2, h3, _⟩)
   ·exact h1
   ·omega
 | d + 1, u, M, c, h, hs, a, b => by
  have h1 := tIn_mem (u := u) (n := n) hv (n - (u + 1)) (u + 1) M c (by omega) (Nat.lt_succ_self u) hs
  have hrow : ∀ a, (tIn v u g (n - (u + 1)) (u + 1) M c).1 v a = M v a := fun a => bool_iffr (by
   rw [h1]
   constructor
   ·rintro (h3 | ⟨_, h3⟩)
    ·exact h3
    ·have := h3.2.2.1
     rw [hv] at this
     cases this
   ·exact .inl)
  have hcnd : ∀ a b, CndR (tIn v u g (n - (u + 1)) (u + 1) M c).1 g v a b ↔ CndR M g v a b := fun a b => by
   unfold CndR
   rw [hrow, hrow]
  have hs1 : ∀ a b, (tIn v u g (n - (u + 1)) (u + 1) M c).1 a b = true → (tIn v u g (n - (u + 1)) (u + 1) M c).1 b a = true := fun a b hab => by
   rw [h1] at hab ⊢
   rcases hab with h3 | ⟨h3 | h3, h4⟩
   ·exact .inl (hs a b h3)
   ·exact .inr ⟨.inr h3, h4.2.1, h4.1, h4.2.2.2, h4.2.2.1⟩
   ·exact .inr ⟨.inl h3, h4.2.1, h4.1, h4.2.2.2, h4.2.2.1⟩
  unfold tOut
  have h3 := tOut_mem (n := n) hv d (u + 1) (tIn v u g (n - (u + 1)) (u + 1) M c).1 (tIn v u g (n - (u + 1)) (u + 1) M c).2 (by omega) hs1
  rw [h3 a b, h1 a b, hcnd]
  constructor
  ·rintro ((h5 | ⟨⟨rfl, h5, h6⟩ | ⟨rfl, h5, h6⟩, h7⟩) | ⟨h5, h6, h7, h8, h9, h10⟩)
   ·exact .inl h5
   ·exact .inr ⟨Nat.le_refl _, by omega, by omega, h6, by omega, h7⟩
   ·exact .inr ⟨by omega, Nat.le_refl _, h6, by omega, by omega, h7⟩
   ·exact .inr ⟨by omega, by omega, h7, h8, h9, h10⟩
  ·rintro (h5 | ⟨h5, h6, h7, h8, h9, h10⟩)
   ·exact .inl (.inl h5)
   ·by_cases ea : a = u
    ·exact .inl (.inr ⟨.inl ⟨ea, by omega, h8⟩, h10⟩)
    ·by_cases eb : b = u
     ·exact .inl (.inr ⟨.inr ⟨eb, by omega, h7⟩, h10⟩)
     ·exact .inr ⟨by omega, by omega, h7, h8, h9, h10⟩
theorem stM_mem {l : List S58} {n : Nat} (har : ∀ (j : Nat) (hj : j < l.length), 0 ≤ l[j].f0 ∧ l[j].f0 < (n : Int) ∧ 0 ≤ l[j].f1 ∧ l[j].f1 < (n : Int)) {a b : Nat} : ∀ j, j ≤ l.length →
  (stM l j a b = true ↔ a ≠ b ∧ ∃ (i : Nat) (hi : i < l.length), i < j ∧ ((l[i].f0 = (a : Int) ∧ l[i].f1 = (b : Int)) ∨ (l[i].f1 = (a : Int) ∧ l[i].f0 = (b : Int))))
 | 0, _ => by
  constructor
  ·intro h; cases h
  ·rintro ⟨_, i, _, hi, _⟩; omega
 | j + 1, h => by
  have hj : j < l.length := by omega
  have ih := stM_mem har (a := a) (b := b) j (by omega)
  obtain ⟨f1, f2, f3, f4⟩ := har j hj
  have e : l.getD j z58 = l[j] := by simp [List.getElem?_eq_getElem hj]
  unfold stM
  rw [e]
  by_cases hloop : l[j].f0 = l[j].f1
  ·rw [if_pos hloop, ih]
   constructor
   ·rintro ⟨h1, i, hi, h2, h3⟩
    exact ⟨h1, i, hi, by omega, h3⟩
   ·rintro ⟨h1, i, hi, h2, h3⟩
    by_cases e2 : i = j
    ·subst e2
     clear ih
     rcases h3 with ⟨h4, h5⟩ | ⟨h4, h5⟩ <;> omega
    ·exact ⟨h1, i, hi, by omega, h3⟩
  ·rw [if_neg hloop, mset2r, ih]
   constructor
   ·rintro (⟨h1, i, hi, h2, h3⟩ | ⟨h1, h2⟩ | ⟨h1, h2⟩)
    ·exact ⟨h1, i, hi, by omega, h3⟩
    ·exact ⟨by omega, j, hj, by omega, .inl ⟨by omega, by omega⟩⟩
    ·exact ⟨by omega, j, hj, by omega, .inr ⟨by omega, by omega⟩⟩
   ·rintro ⟨h1, i, hi, h2, h3⟩
    by_cases e2 : i = j
    ·subst e2
     rcases h3 with ⟨h4, h5⟩ | ⟨h4, h5⟩
     ·exact .inr (.inl ⟨by omega, by omega⟩)
     ·exact .inr (.inr ⟨by omega, by omega⟩)
    ·exact .inl ⟨h1, i, hi, by omega, h3⟩
def codeL : Code → Code
 | .seq a _ => a
 | c => c
def codeR : Code → Code
 | .seq _ b => b
 | c => c
def regOps : Code → Array Oper
 | .region _ ops _ => ops
 | _ => #[]
section
variable {P : Program} {ops : Array Oper} {Q : Exit → Act → World → Prop} {md : Region.Mode} {S : World → Prop} {ds : List Nat}
theorem ready_ {rs : List Nat} {fuel : Nat} {l : Array Bool} {a : Act} {w : World} (hr : (Region.ready md ops l == rs) = true) (hne : rs ≠ []) (h : AllReadyL P md ops Q S ds fuel l a w rs) : wpAnyLast P md ops Q S ds (fuel + 1) l a w := wpAnyLast_ready (by simpa using hr) hne h
theorem more_ {i : Nat} {N : Option Tmp} {oi : Oper} {fuel : Nat} {l : Array Bool} {a : Act} {w : World} {rs : List Nat} (l' : Array Bool) (hi : ops[i]? = some oi) (hN : oi.dst = N) (hl : (l.setIfInBounds i true == l') = true) (hd : i ∉ ds)
  (h : ∀ K : Act → World → Prop, Shut (∀ a' w', S w' → (S w' → wpAnyLast P md ops Q S ds fuel l' a' w') → K a' w') → if Region.wanted oi (yielded ops a.tmps) = true then Oper.wp P oi a w K Q else K (a.put N undef) w)
  (hs : AllReadyL P md ops Q S ds fuel l a w rs) : AllReadyL P md ops Q S ds fuel l a w (i :: rs) := by
 subst hN
 have hl' := beq_iff_eq.1 hl
 subst hl'
 exact AllReadyL.cons hi hd (fun K hK => h K hK) hs
theorem m_ (i d : Nat) {n m fuel : Nat} {oi : Oper} {a : Act} {w : World} {rs : List Nat}
  (h : ∀ K : Act → World → Prop, Shut (∀ a' w', S w' → (S w' → wpAnyLast P md ops Q S ds fuel (bits n (m ||| (1 <<< i))) a' w') → K a' w') → if Region.wanted oi (yielded ops a.tmps) = true then Oper.wp P oi a w K Q else K (a.put (some d) undef) w)
  (hs : AllReadyL P md ops Q S ds fuel (bits n m) a w rs) (hi : ops[i]? = some oi := by rfl) (hN : oi.dst = some d := by rfl) (hl : ((bits n m).setIfInBounds i true == bits n (m ||| (1 <<< i))) = true := by kernel_rfl) (hd : i ∉ ds := by decide) : AllReadyL P md ops Q S ds fuel (bits n m) a w (i :: rs) := more_ (bits n (m ||| (1 <<< i))) hi hN hl hd h hs
end
abbrev encP (p : Int × Int) : Value := .agg #[.int .i64 p.1, .int .i64 p.2]
section
variable {P : Program} {kt it : TypeId} {inf : TypeInfo} (hk : P.underlying kt = some (.array 2 it)) (hu : P.underlying it = some (.int .i64)) (hinf : P.info? it = some inf) (hs : inf.size = 1)
include hk hu hinf hs
omit hk in
theorem run_eqItems_pair (p q : Int × Int) (w : World) : (Op.eqItems 9999 it (P.cellsOf it) #[.int .i64 p.1, .int .i64 p.2] #[.int .i64 q.1, .int .i64 q.2] [0, 1]).run P w = .ok (decide (p = q)) w := by
 have he : P.plainKey it = true := by unfold Program.plainKey; simp [hu]
 have hc : P.cellsOf it = 1 := by simp [Program.cellsOf, hinf, hs]
 have heq : ∀ (a b : Int) (w : World), (Op.equalIn 9999 it (.int .i64 a) (.int .i64 b)).run P w = .ok (a == b) w := fun a b w => by
  unfold Op.equalIn
  simp [run_underlying hu]
 have p0 : ∀ (x y : Int) (w : World), (part it #[.int .i64 x, .int .i64 y] (0 * 1)).run P w = .ok (.int .i64 x) w := fun x y w => run_part_plain w he rfl
 have p1 : ∀ (x y : Int) (w : World), (part it #[.int .i64 x, .int .i64 y] (1 * 1)).run P w = .ok (.int .i64 y) w := fun x y w => run_part_plain w he rfl
 obtain ⟨a, b⟩ := p
 obtain ⟨c, d⟩ := q
 have p2 : ∀ (x y : Int) (w : World), (part it #[.int .i64 x, .int .i64 y] 1).run P w = .ok (.int .i64 y) w := fun x y w => run_part_plain w he rfl
 rw [hc]
 simp only [Op.eqItems, Sem.run_bind, p0, p1, heq, Result.andThen_ok]
 by_cases h1 : a = c
 ·by_cases h2 : b = d
  ·simp [h1, h2, p2, heq]
  ·simp [h1, h2, p2, heq]
 ·simp [h1]
theorem run_equal_pair (p q : Int × Int) (w : World) : (Op.equal kt (encP p) (encP q)).run P w = .ok (decide (p = q)) w := by
 show (Op.equalIn (9999 + 1) kt (.agg #[.int .i64 p.1, .int .i64 p.2]) (.agg #[.int .i64 q.1, .int .i64 q.2])).run P w = _
 rw [run_equalIn_array w 9999 _ _ hk hinf]
 exact run_eqItems_pair hu hinf hs p q w
theorem findAsking_pair {ε : Type} (encE : ε → Value) (k : Int × Int) : ∀ (es : List MapEntry) (m : List ((Int × Int) × ε)) (i : Nat) (w : World), es.map (fun x => (x.key, x.val)) = m.map (fun p => (encP p.1, encE p.2)) →
  (Instr.findAsking kt (encP k) es i).run P w = .ok ((midx m k i).map fun q => (q.1, encE q.2)) w
 | [], [], i, w, _ => rfl
 | [], p :: r, i, w, h => by simp at h
 | x :: es, [], i, w, h => by simp at h
 | x :: es, p :: r, i, w, h => by
  simp only [List.map_cons, List.cons.injEq, Prod.mk.injEq] at h
  obtain ⟨⟨hkx, hv⟩, h⟩ := h
  unfold Instr.findAsking midx
  rw [Sem.run_bind, hkx, run_equal_pair hk hu hinf hs k p.1 w, Result.andThen_ok]
  by_cases he : p.1 = k
  ·rw [decide_eq_true he.symm, if_pos rfl, if_pos he, hv]
   rfl
  ·rw [decide_eq_false (fun e => he e.symm), if_neg (by decide), if_neg he]
   exact findAsking_pair encE k es r (i + 1) w h
theorem pairKey : KeyKind P kt encP where
 find := by
  intro ε encE k es m w he
  unfold Instr.findKey
  simp only [Sem.run_bind, run_underlying hk, Result.andThen_ok]
  have hn : ∀ (v : Value) (es : List MapEntry), Instr.findNow (.array 2 it) v es 0 = if es = [] then some none else none := fun v es => by
   cases es with
   | nil => rfl
   | cons a r => simp [Instr.findNow, Instr.sameNow]
  rw [hn]
  cases es with
  | nil =>
   cases m with
   | nil => rfl
   | cons a r => simp at he
  | cons a r =>
   simp only [if_neg (List.cons_ne_nil a r)]
   exact findAsking_pair hk hu hinf hs encE k (a :: r) m 0 w he
 check := by
  intro e k w
  have he : P.plainKey it = true := by unfold Program.plainKey; simp [hu]
  have hc : P.cellsOf it = 1 := by simp [Program.cellsOf, hinf, hs]
  have p0 : ∀ (w : World), (part it #[.int .i64 k.1, .int .i64 k.2] (0 * 1)).run P w = .ok (.int .i64 k.1) w := fun w => run_part_plain w he rfl
  have p1 : ∀ (w : World), (part it #[.int .i64 k.1, .int .i64 k.2] (1 * 1)).run P w = .ok (.int .i64 k.2) w := fun w => run_part_plain w he rfl
  have hch : ∀ (a : Int) (w : World), (Instr.checkKey e 9999 it (.int .i64 a)).run P w = .ok () w := fun a w => by
   unfold Instr.checkKey
   simp [run_underlying hu]
  show (Instr.checkKey e (9999 + 1) kt (.agg #[.int .i64 k.1, .int .i64 k.2])).run P w = _
  unfold Instr.checkKey
  simp only [Sem.run_bind, run_underlying hk, Result.andThen_ok]
  simp only [Std.Legacy.Range.forIn_eq_forIn_range', Std.Legacy.Range.size, Nat.sub_zero, Nat.add_one_sub_one, Nat.div_one]
  rw [show List.range' 0 2 = [0, 1] from rfl]
  simp only [List.forIn_cons, List.forIn_nil, Sem.run_bind, run_sizeOf _ hinf, hc, Result.andThen_ok, p0, p1, hch, Sem.run_pure]
 same := by
  intro k
  simp [Instr.sameBits]
 inj := by
  intro k k' h
  obtain ⟨a, b⟩ := k
  obtain ⟨c, d⟩ := k'
  simp [encP] at h
  simp [h]
end
abbrev Tags := Nat → Nat × Nat
def tagPut (o : Tags) (k : Nat) (t : Nat × Nat) : Tags := fun j => if j = k then t else o j
structure RowsIs (w : World) (base B t : Nat) (o : Tags) (vs : Nat → Value) (rs : List (List Int)) : Prop where
 cell : ∀ i, i < rs.length → w.cell? ⟨B, i, none⟩ = some (vs i)
 row : ∀ i, i < rs.length → Kd.R (Kd.int .i64) 3 w base (fun k => o k = (t, i + 1)) (vs i) (rs.getD i [])
 own : o B = (t, 0)
 lo : base ≤ B
 top : B < w.heap.size
 frz : ∀ i, w.frozen? ⟨B, i, none⟩ = false
section
variable {w w1 : World} {base B t : Nat} {o o' : Tags} {vs : Nat → Value} {rs : List (List Int)}
theorem rows_move (h : RowsIs w base B t o vs rs) (hs : w.heap.size ≤ w1.heap.size) (hm : ∀ k, k < w.heap.size → (o k).1 = t → w1.heap[k]? = w.heap[k]?) : RowsIs w1 base B t o vs rs := by
 have hB := hm B h.top (by rw [h.own])
 refine ⟨fun i hi => ?_, fun i hi => Kd.R_step (h.row i hi) (fun k hk hlt => hm k hlt (by rw [hk])), h.own, h.lo, Nat.lt_of_lt_of_le h.top hs, fun i => (World.frozen?_of_block hB).trans (h.frz i)⟩
 rw [← h.cell i hi]
 unfold World.cell?
 rw [hB]
theorem RowsIs.below (h : RowsIs w base B t o vs rs) (hb : Below w.heap.size w w1) : RowsIs w1 base B t o vs rs := rows_move h hb.size (fun k hk _ => hb.block k hk)
theorem RowsIs.drew (h : RowsIs w base B t o vs rs) : RowsIs w.drew base B t o vs rs := rows_move h (Nat.le_refl _) (fun _ _ _ => rfl)
theorem RowsIs.grown (h : RowsIs w base B t o vs rs) {row : Option Nat} (hg : w.grownBy w1 row) (hne : ∀ k, row = some k → (o k).1 ≠ t) : RowsIs w1 base B t o vs rs :=
 rows_move h hg.size (fun k hk ht => hg.block k hk (fun e => hne k e.symm ht))
theorem RowsIs.far (h : RowsIs w base B t o vs rs) (a : Addr) (v : Value) (ha : (o a.block).1 ≠ t) : RowsIs (w.setCell a v) base B t o vs rs :=
 rows_move h (by simp [World.setCell]) (fun k hk ht => Below.heap_setCell w a v k (fun e => ha (by rw [← e]; exact ht)))
theorem RowsIs.retag (h : RowsIs w base B t o vs rs) (ho : ∀ k, k < w.heap.size → o' k = o k) : RowsIs w base B t o' vs rs := by
 refine ⟨h.cell, fun i hi => ?_, by rw [ho B h.top]; exact h.own, h.lo, h.top, h.frz⟩
 have h1 := h.row i hi
 exact Kd.R_reok rfl h1 (fun k hk => by rw [ho k (Kd.R_lt h1 k hk)]; exact h1.1 k hk)
theorem RowsIs.put (h : RowsIs w base B t o vs rs) {i : Nat} (hi : i < rs.length) {v1 : Value} {r1 : List Int} (hr : Kd.R (Kd.int .i64) 3 w1 base (fun _ => True) v1 r1) (hg : w.grownBy w1 (vs i).ownBlock)
  (hat : v1.ownBlock = (vs i).ownBlock ∨ ∃ b, v1.ownBlock = some b ∧ w.heap.size ≤ b) :
  ∃ o', (∀ k, k < w.heap.size → o' k = o k) ∧ (∀ k, v1.ownBlock = some k → o' k = (t, i + 1)) ∧ RowsIs (w1.setCell ⟨B, i, none⟩ v1) base B t o' (fun j => if j = i then v1 else vs j) (rs.set i r1) := by
 have hvi := h.row i hi
 have hBv : ∀ k, (vs i).ownBlock = some k → k ≠ B := fun k hk e => by
  have h1 := hvi.1 k hk
  rw [e, h.own] at h1
  simp at h1
 have hB1 : w1.heap[B]? = w.heap[B]? := hg.block B h.top (fun e => hBv B e.symm rfl)
 have hsz : w1.heap.size ≤ (w1.setCell ⟨B, i, none⟩ v1).heap.size := by simp [World.setCell]
 obtain ⟨o', ho1, ho2, ho3⟩ : ∃ o' : Tags, (∀ k, k < w.heap.size → o' k = o k) ∧ (∀ k, v1.ownBlock = some k → o' k = (t, i + 1)) ∧ (∀ k, v1.ownBlock = some k → k ≠ B) := by
  rcases hat with e | ⟨b, e, hb⟩
  ·exact ⟨o, fun _ _ => rfl, fun k hk => hvi.1 k (by rw [← e]; exact hk), fun k hk => hBv k (by rw [← e]; exact hk)⟩
  ·refine ⟨tagPut o b (t, i + 1), fun k hk => ?_, fun k hk => ?_, fun k hk e2 => ?_⟩
   ·unfold tagPut
    rw [if_neg (by omega)]
   ·rw [e] at hk
    injection hk with hk
    subst hk
    unfold tagPut
    rw [if_pos rfl]
   ·rw [e] at hk
    injection hk with hk
    have := h.top
    omega
 refine ⟨o', ho1, ho2, ?_⟩
 refine ⟨fun j hj => ?_, fun j hj => ?_, by rw [ho1 B h.top]; exact h.own, h.lo, ?_, fun j => ?_⟩
 ·rw [List.length_set] at hj
  have hc : w1.cell? ⟨B, j, none⟩ = some (vs j) := by
   rw [← h.cell j hj]
   unfold World.cell?
   rw [hB1]
  by_cases e : j = i
  ·subst e
   rw [if_pos rfl]
   exact World.cell?_setCell_same _ _ _ hc
  ·rw [if_neg e]
   refine (World.cell?_setCell_other (h := fun e2 => ?_) ..).trans hc
   injection e2 with _ e2
   exact e e2.symm
 ·rw [List.length_set] at hj
  by_cases e : j = i
  ·subst e
   rw [if_pos rfl]
   have hget : (rs.set j r1).getD j [] = r1 := by simp [List.getElem?_set, hj]
   rw [hget]
   refine Kd.R_step (Kd.R_reok rfl hr ho2) (fun k hk hlt => Below.heap_setCell _ _ _ _ (fun e2 => ?_))
   have e3 : k = B := e2
   rw [e3, ho1 B h.top, h.own] at hk
   simp at hk
  ·rw [if_neg e]
   have hget : (rs.set i r1).getD j [] = rs.getD j [] := by
    rw [List.getD_eq_getElem?_getD, List.getElem?_set, if_neg (fun x => e x.symm), ← List.getD_eq_getElem?_getD]
   rw [hget]
   have hrj := h.row j hj
   have hlt : ∀ k, (vs j).ownBlock = some k → k < w.heap.size := Kd.R_lt hrj
   have h1 : Kd.R (Kd.int .i64) 3 w1 base (fun k => o k = (t, j + 1)) (vs j) (rs.getD j []) := Kd.R_step hrj (fun k hk hlt => hg.block k hlt (fun e2 => by
    have h2 : o k = (t, i + 1) := hvi.1 k e2.symm
    rw [hk] at h2
    simp at h2
    exact e h2))
   have h2 := Kd.R_reok (ok := fun k => o' k = (t, j + 1)) rfl h1 (fun k hk => by rw [ho1 k (hlt k hk)]; exact hrj.1 k hk)
   refine Kd.R_step h2 (fun k hk hlt => Below.heap_setCell _ _ _ _ (fun e2 => ?_))
   have e3 : k = B := e2
   rw [e3, ho1 B h.top, h.own] at hk
   simp at hk
 ·exact Nat.lt_of_lt_of_le h.top (Nat.le_trans hg.size hsz)
 ·rw [World.frozen?_setCell]
  exact (World.frozen?_of_block hB1).trans (h.frz j)
end
structure HSt where
 edges : List S58
 num : List ((Int × Int) × Int)
 ups : List (List Int)
 downs : List (List Int)
def hadd (S : HSt) (u v : Nat) : HSt where
 edges := S.edges ++ [⟨(u : Int), (v : Int)⟩]
 num := mput S.num ((u : Int), (v : Int)) (S.edges.length : Int)
 ups := S.ups.set u (S.ups.getD u [] ++ [(S.edges.length : Int)])
 downs := S.downs.set v (S.downs.getD v [] ++ [(u : Int)])
structure HierIs (w : World) (base p : Nat) (o : Tags) (n : Nat) (gv ov rv ev : Value) (mb Bu cu Bd cd : Nat) (vu vd : Nat → Value) (S : HSt) : Prop where
 blk : w.heap[p]? = some (.cells #[.int .i64 (n : Int), gv, ov, rv, ev, .map (some mb), .slice (some ⟨Bu, 0, none⟩) n cu, .slice (some ⟨Bd, 0, none⟩) n cd] 108 (0, 0))
 ptag : o p = (6, 0)
 ed : Kd.R k58 58 w base (fun k => o k = (4, 0)) ev S.edges
 mp : MapIs encP (Value.int .i64) w mb S.num
 mtag : o mb = (5, 0)
 up : RowsIs w base Bu 2 o vu S.ups
 down : RowsIs w base Bd 3 o vd S.downs
 lenu : S.ups.length = n
 lend : S.downs.length = n
 plo : base ≤ p
 mlo : base ≤ mb
section
variable {w w1 : World} {base p : Nat} {o o' : Tags} {n : Nat} {gv ov rv ev : Value} {mb Bu cu Bd cd : Nat} {vu vd : Nat → Value} {S : HSt}
theorem hblk_lt {w : World} {b : Nat} {ob : Obj} (h : w.heap[b]? = some ob) : b < w.heap.size := (Array.getElem?_eq_some_iff.1 h).1
theorem HierIs.keep (h : HierIs w base p o n gv ov rv ev mb Bu cu Bd cd vu vd S) (hs : w.heap.size ≤ w1.heap.size) (hm : ∀ k, k < w.heap.size → 2 ≤ (o k).1 → (o k).1 ≤ 6 → w1.heap[k]? = w.heap[k]?) : HierIs w1 base p o n gv ov rv ev mb Bu cu Bd cd vu vd S :=
 ⟨(hm p (hblk_lt h.blk) (by rw [h.ptag]; decide) (by rw [h.ptag]; decide)).trans h.blk, h.ptag, Kd.R_step h.ed (fun k hk hlt => hm k hlt (by rw [hk]; decide) (by rw [hk]; decide)), h.mp.keep (hm mb h.mp.lt (by rw [h.mtag]; decide) (by rw [h.mtag]; decide)), h.mtag,
  rows_move h.up hs (fun k hk ht => hm k hk (by omega) (by omega)), rows_move h.down hs (fun k hk ht => hm k hk (by omega) (by omega)), h.lenu, h.lend, h.plo, h.mlo⟩
theorem HierIs.drew (h : HierIs w base p o n gv ov rv ev mb Bu cu Bd cd vu vd S) : HierIs w.drew base p o n gv ov rv ev mb Bu cu Bd cd vu vd S := h.keep (Nat.le_refl _) (fun _ _ _ _ => rfl)
theorem HierIs.below (h : HierIs w base p o n gv ov rv ev mb Bu cu Bd cd vu vd S) (hb : Below w.heap.size w w1) : HierIs w1 base p o n gv ov rv ev mb Bu cu Bd cd vu vd S := h.keep hb.size (fun k hk _ _ => hb.block k hk)
theorem HierIs.base_le (h : HierIs w base p o n gv ov rv ev mb Bu cu Bd cd vu vd S) : base ≤ w.heap.size := by
 have := hblk_lt h.blk
 have := h.plo
 omega
theorem HierIs.re {w2 : World} (h : HierIs w base p o n gv ov rv ev mb Bu cu Bd cd vu vd S) (ho : ∀ k, k < w.heap.size → o' k = o k) (hs : w.heap.size ≤ w2.heap.size) {C : Nat → Prop} (hm : ∀ k, k < w.heap.size → ¬ C k → w2.heap[k]? = w.heap[k]?) :
  (¬ C p → w2.heap[p]? = some (.cells #[.int .i64 (n : Int), gv, ov, rv, ev, .map (some mb), .slice (some ⟨Bu, 0, none⟩) n cu, .slice (some ⟨Bd, 0, none⟩) n cd] 108 (0, 0))) ∧ o' p = (6, 0) ∧
  ((∀ k, o k = (4, 0) → ¬ C k) → Kd.R k58 58 w2 base (fun k => o' k = (4, 0)) ev S.edges) ∧ (¬ C mb → MapIs encP (Value.int .i64) w2 mb S.num) ∧ o' mb = (5, 0) ∧
  ((∀ k, (o k).1 = 2 → ¬ C k) → RowsIs w2 base Bu 2 o' vu S.ups) ∧ ((∀ k, (o k).1 = 3 → ¬ C k) → RowsIs w2 base Bd 3 o' vd S.downs) := by
 refine ⟨fun hc => (hm p (hblk_lt h.blk) hc).trans h.blk, by rw [ho p (hblk_lt h.blk)]; exact h.ptag, fun hc => ?_, fun hc => h.mp.keep (hm mb h.mp.lt hc), by rw [ho mb h.mp.lt]; exact h.mtag, fun hc => ?_, fun hc => ?_⟩
 ·have h1 := Kd.R_step h.ed (w1 := w2) (fun k hk hlt => hm k hlt (hc k hk))
  exact Kd.R_reok rfl h1 (fun k hk => by
   have h2 := h.ed.1 k hk
   show o' k = (4, 0)
   rw [ho k (Kd.R_lt h.ed k hk)]
   exact h2)
 ·exact rows_move (h.up.retag ho) hs (fun k hk ht => hm k hk (hc k (by rw [← ho k hk]; exact ht)))
 ·exact rows_move (h.down.retag ho) hs (fun k hk ht => hm k hk (hc k (by rw [← ho k hk]; exact ht)))
theorem HierIs.edPut (h : HierIs w base p o n gv ov rv ev mb Bu cu Bd cd vu vd S) {v1 : Value} {es : List S58} (hr : Kd.R k58 58 w1 base (fun _ => True) v1 es) (hg : w.grownBy w1 ev.ownBlock) (hat : v1.ownBlock = ev.ownBlock ∨ ∃ b, v1.ownBlock = some b ∧ w.heap.size ≤ b) :
  ∃ o', (∀ k, k < w.heap.size → o' k = o k) ∧ HierIs (w1.setCell ⟨p, 4, none⟩ v1) base p o' n gv ov rv v1 mb Bu cu Bd cd vu vd { S with edges := es } := by
 have hp4 : ∀ k, ev.ownBlock = some k → o k = (4, 0) := h.ed.1
 obtain ⟨o', ho1, ho2⟩ : ∃ o' : Tags, (∀ k, k < w.heap.size → o' k = o k) ∧ (∀ k, v1.ownBlock = some k → o' k = (4, 0)) := by
  rcases hat with e | ⟨b, e, hb⟩
  ·exact ⟨o, fun _ _ => rfl, fun k hk => hp4 k (by rw [← e]; exact hk)⟩
  ·refine ⟨tagPut o b (4, 0), fun k hk => ?_, fun k hk => ?_⟩
   ·unfold tagPut
    rw [if_neg (by omega)]
   ·rw [e] at hk
    injection hk with hk
    subst hk
    unfold tagPut
    rw [if_pos rfl]
 have hsz : (w1.setCell ⟨p, 4, none⟩ v1).heap.size = w1.heap.size := by simp [World.setCell]
 have hpe : some p ≠ ev.ownBlock := fun e => by
  have h1 := hp4 p e.symm
  rw [h.ptag] at h1
  simp at h1
 obtain ⟨a1, a2, a3, a4, a5, a6, a7⟩ := h.re (w2 := w1.setCell ⟨p, 4, none⟩ v1) (C := fun k => o k = (4, 0) ∨ k = p) ho1 (by rw [hsz]; exact hg.size) (fun k hk hc => by
  rw [Below.heap_setCell _ _ _ _ (fun e => hc (.inr e))]
  exact hg.block k hk (fun e => hc (.inl (hp4 k e.symm))))
 refine ⟨o', ho1, ⟨?_, a2, ?_, a4 (fun hc => ?_), a5, a6 (fun k hk hc => ?_), a7 (fun k hk hc => ?_), h.lenu, h.lend, h.plo, h.mlo⟩⟩
 ·have hb := (hg.block p (hblk_lt h.blk) hpe).trans h.blk
  simp [World.setCell, Array.getElem?_modify, hb]
 ·refine Kd.R_step (Kd.R_reok rfl hr ho2) (fun k hk hlt => Below.heap_setCell _ _ _ _ (fun e => ?_))
  have e' : k = p := e
  rw [e', a2] at hk
  simp at hk
 ·rcases hc with hc | hc
  ·rw [h.mtag] at hc
   simp at hc
  ·have h1 := h.mtag
   rw [hc, h.ptag] at h1
   simp at h1
 ·rcases hc with hc | hc
  ·rw [hc] at hk
   simp at hk
  ·rw [hc, h.ptag] at hk
   simp at hk
 ·rcases hc with hc | hc
  ·rw [hc] at hk
   simp at hk
  ·rw [hc, h.ptag] at hk
   simp at hk
theorem HierIs.mapPut (h : HierIs w base p o n gv ov rv ev mb Bu cu Bd cd vu vd S) {m : List ((Int × Int) × Int)} (hm : MapIs encP (Value.int .i64) w1 mb m) (hg : w.grownBy w1 (some mb)) : HierIs w1 base p o n gv ov rv ev mb Bu cu Bd cd vu vd { S with num := m } := by
 obtain ⟨a1, a2, a3, a4, a5, a6, a7⟩ := h.re (o' := o) (w2 := w1) (C := fun k => k = mb) (fun _ _ => rfl) hg.size (fun k hk hc => hg.block k hk (fun e => hc (Option.some.inj e)))
 have hne : ∀ k, o k ≠ (5, 0) → k ≠ mb := fun k hk e => hk (by rw [e]; exact h.mtag)
 exact ⟨a1 (hne p (by rw [h.ptag]; decide)), a2, a3 (fun k hk => hne k (by rw [hk]; decide)), hm, a5, a6 (fun k hk => hne k (fun e => by rw [e] at hk; simp at hk)), a7 (fun k hk => hne k (fun e => by rw [e] at hk; simp at hk)), h.lenu, h.lend, h.plo, h.mlo⟩
theorem HierIs.upPut (h : HierIs w base p o n gv ov rv ev mb Bu cu Bd cd vu vd S) {vu' : Nat → Value} {ups : List (List Int)} (ho : ∀ k, k < w.heap.size → o' k = o k) (hs : w.heap.size ≤ w1.heap.size) (hm : ∀ k, k < w.heap.size → (o k).1 ≠ 2 → w1.heap[k]? = w.heap[k]?) (hr : RowsIs w1 base Bu 2 o' vu' ups) (hl : ups.length = n) :
  HierIs w1 base p o' n gv ov rv ev mb Bu cu Bd cd vu' vd { S with ups := ups } := by
 obtain ⟨a1, a2, a3, a4, a5, a6, a7⟩ := h.re (w2 := w1) (C := fun k => (o k).1 = 2) ho hs (fun k hk hc => hm k hk hc)
 exact ⟨a1 (by rw [h.ptag]; decide), a2, a3 (fun k hk => by rw [hk]; decide), a4 (by rw [h.mtag]; decide), a5, hr, a7 (fun k hk => by rw [hk]; decide), hl, h.lend, h.plo, h.mlo⟩
theorem HierIs.downPut (h : HierIs w base p o n gv ov rv ev mb Bu cu Bd cd vu vd S) {vd' : Nat → Value} {downs : List (List Int)} (ho : ∀ k, k < w.heap.size → o' k = o k) (hs : w.heap.size ≤ w1.heap.size) (hm : ∀ k, k < w.heap.size → (o k).1 ≠ 3 → w1.heap[k]? = w.heap[k]?) (hr : RowsIs w1 base Bd 3 o' vd' downs) (hl : downs.length = n) :
  HierIs w1 base p o' n gv ov rv ev mb Bu cu Bd cd vu vd' { S with downs := downs } := by
 obtain ⟨a1, a2, a3, a4, a5, a6, a7⟩ := h.re (w2 := w1) (C := fun k => (o k).1 = 3) ho hs (fun k hk hc => hm k hk hc)
 exact ⟨a1 (by rw [h.ptag]; decide), a2, a3 (fun k hk => by rw [hk]; decide), a4 (by rw [h.mtag]; decide), a5, a6 (fun k hk => by rw [hk]; decide), hr, h.lenu, hl, h.plo, h.mlo⟩
end
def HT (o : Tags) (k : Nat) : Prop := 2 ≤ (o k).1 ∧ (o k).1 ≤ 6
theorem pKey : KeyKind Try.prog 130 encP := by
 obtain ⟨i, h1, hh⟩ := Option.map_eq_some_iff.1 info3
 simp only [Prod.mk.injEq] at hh
 exact pairKey Try.underlying130 Try.underlying3 h1 hh.2.1
set_option maxHeartbeats 3200000 in
set_option maxRecDepth 100000 in
theorem Hier_add.calls {w : World} {base p : Nat} {o : Tags} {n : Nat} {gv ov rv ev : Value} {mb Bu cu Bd cd : Nat} {vu vd : Nat → Value} {S : HSt} (u v : Nat) (h : HierIs w base p o n gv ov rv ev mb Bu cu Bd cd vu vd S) (hu : u < n) (hv : v < n)
  (hlen : S.edges.length ≤ 1000000000) (hlenup : (S.ups.getD u []).length ≤ 1000000000) (hlendown : (S.downs.getD v []).length ≤ 1000000000) :
  Calls Try.prog 86 #[.pointer (some ⟨p, 0, none⟩), .int .i64 (u : Int), .int .i64 (v : Int)] w fun e w' => e = .returned (.tuple #[]) ∧ Bel (HT o) w w' ∧
   ∃ o' ev' vu' vd', (∀ k, k < w.heap.size → o' k = o k) ∧ HierIs w' base p o' n gv ov rv ev' mb Bu cu Bd cd vu' vd' (hadd S u v) := by
 have H0 := Aside0.mk h
 obtain ⟨ru, HRU⟩ : ∃ x, Aside0 (S.ups.getD u [] = x) := ⟨_, ⟨rfl⟩⟩
 obtain ⟨rv_, HRV⟩ : ∃ x, Aside0 (S.downs.getD v [] = x) := ⟨_, ⟨rfl⟩⟩
 rw [HRU.out] at hlenup
 rw [HRV.out] at hlendown
 obtain ⟨Ae, ce, rfl⟩ := Kd.R_slice h.ed
 have hc4 := (blk_cell h.blk 4).trans rfl
 have hb := h.base_le
 clear h
 go_enter Try.func86, Try.ntmps86
 go_upto_region 2 with (
  refine Kd.R_append k58 (w0 := w) base (by rfl) (.tmp 16) (.tmp 20) 22 58 (.agg #[(.int .i64 0), (.int .i64 0)]) 16 rfl Try.underlying22 info58 rfl (by decide) (by decide) (.slice Ae S.edges.length ce) S.edges ⟨(u : Int), (v : Int)⟩ [.int .i64 (u : Int), .int .i64 (v : Int)] (fun _ => True) (fun _ => False) rfl rfl ?aP (fun _ hk => hk.elim) ?aF ?aO ?aB ?aS ?aL ?_
  (case aP => exact k58_mkM _ _ _ _)
  (case aF => exact (fun _ _ => trivial))
  (case aO => exact Kd.R_mono H0.out.ed (fun _ _ => trivial))
  (case aB => exact Below.refl _ _)
  (case aS => exact hb)
  (case aL => omega)
  intro v1 w1 ho1 hb1 hg1 hat1
  obtain ⟨A1, c1, rfl⟩ := Kd.R_slice ho1
  have HR1 := Aside0.mk ho1
  have HG1 := Aside0.mk hg1
  have HAT1 := Aside0.mk hat1
  have hc4b : w1.cell? ⟨p, 4, none⟩ = some (.slice Ae S.edges.length ce) := cell_grown hg1 hc4 (fun e => by have h1 : o p = (4, 0) := H0.out.ed.1 p e.symm; rw [H0.out.ptag] at h1; simp at h1)
  have hf4 : w1.frozen? ⟨p, 4, none⟩ = false := blk_frozen ((hg1.block p (hblk_lt H0.out.blk) (fun e => by have h1 : o p = (4, 0) := H0.out.ed.1 p e.symm; rw [H0.out.ptag] at h1; simp at h1)).trans H0.out.blk) 4
  clear ho1 hb1 hg1 hat1 hc4)
 obtain ⟨o2, HO2, HI2⟩ := H0.out.edPut HR1.out HG1.out HAT1.out
 have HO2 := Aside0.mk HO2
 have HI2 := Aside0.mk HI2
 have hle : (S.edges ++ [(⟨(u : Int), (v : Int)⟩ : S58)]).length = S.edges.length + 1 := by simp
 rw [hle] at HI2
 have HE2 : Aside0 (Bel (HT o) w (w1.setCell ⟨p, 4, none⟩ (.slice A1 (S.edges.length + 1) c1))) := ⟨((Bel.refl (HT o) w).grown HG1.out (fun k hk => .inl (by have h1 : o k = (4, 0) := H0.out.ed.1 k hk; unfold HT; rw [h1]; decide))).setCell _ _ (.inl (by unfold HT; rw [H0.out.ptag]; decide))⟩
 generalize w1.setCell ⟨p, 4, none⟩ (.slice A1 (S.edges.length + 1) c1) = w2 at HE2 HI2 ⊢
 have hc5 := (blk_cell HI2.out.blk 5).trans rfl
 clear hc4b hf4 hle HR1 HG1 HAT1
 go_upto_region 3 with (
  refine wp_mapUpdate_map pKey Try.underlying98 rfl _ _ _ rfl rfl HI2.out.mp ((u : Int), (v : Int)) (S.edges.length : Int) rfl rfl rfl ?_
  intro w3 hm1 hg1
  have HI := Aside0.mk (HI2.out.mapPut hm1 hg1)
  have HE := Aside0.mk (HE2.out.grown hg1 (fun k hk => .inl (by injection hk with hk; unfold HT; rw [← hk, ← HO2.out mb H0.out.mp.lt, HI2.out.mtag]; decide)))
  have HS3 := Aside0.mk hg1.size
  clear hm1 hg1 hc5)
 have hcp := (blk_cell HI.out.blk 6).trans rfl
 have hcr := HI.out.up.cell u (by rw [HI.out.lenu]; exact hu)
 refine s_ (fun w' => w'.cell? ⟨p, 6, none⟩ = some (.slice (some ⟨Bu, 0, none⟩) n cu) ∧ w'.cell? ⟨Bu, u, none⟩ = some (vu u)) [16] ⟨hcp, hcr⟩ (fun hHeld => ?_)
 have HD := Aside0.mk (HI.out.drew)
 have HED := Aside0.mk (HE.out.drew)
 generalize w3.drew = wd at HD HED hHeld ⊢
 refine p_ 0 32 ?_
 refine p_ 1 33 ?_
 refine p_ 2 34 ?_
 refine t2_ 3 35 hHeld ?_
 refine p_ 4 36 ?_
 refine p_ 5 37 ?_
 refine p_ 6 38 ?_
 refine p_ 7 39 ?_
 refine t2_ 8 40 hHeld ?_
 refine p_ 9 41 ?_
 refine p_ 10 42 ?_
 refine t2_ 11 43 hHeld ?_
 refine p_ 12 44 ?_
 have HH1 := Aside0.mk hHeld
 refine o_ 13 45 (fun K hK => ?_)
 refine value_ (w1 := ?_) (v := ?_) (by rfl) rfl ?_ ?_; rotate_left 2; (·go_simp; constructor; (·rfl); (·rfl))
 refine hK.out _ _ ⟨(World.cell?_alloc_lt _ _ _ (World.block_lt_of_cell? _ _ hHeld.1)).trans hHeld.1, (World.cell?_alloc_lt _ _ _ (World.block_lt_of_cell? _ _ hHeld.2)).trans hHeld.2⟩ (fun hHeld => ?_)
 clear hK K
 refine n_ 45 ?_
 refine o_ 14 46 (fun K hK => ?_)
 refine Kd.R_append_step (Kd.int .i64) (w0 := wd) base (by rfl) (.tmp 43) (.tmp 45) 25 3 (.int .i64 0) 8 rfl Try.underlying25 info3 rfl (by decide) (by decide) (vu u) ru ((S.edges.length : Int)) [.int .i64 ((S.edges.length : Int))] (fun _ => True) (fun _ => False) rfl rfl ?aP (fun _ hk => hk.elim) ?aF ?aO ?aB ?aS ?aL ?_
 (case aP => exact rfl)
 (case aF => exact (fun _ _ => trivial))
 (case aO => rw [← HRU.out]; exact Kd.R_mono (HD.out.up.row u (by rw [HD.out.lenu]; exact hu)) (fun _ _ => trivial))
 (case aB => exact Below.refl _ _)
 (case aS => exact HD.out.base_le)
 (case aL => have := hlenup; omega)
 intro v6 w6 ho6 hb6 hg6 hat6
 obtain ⟨A6, c6, he6⟩ := Kd.R_slice ho6
 rw [show (ru ++ [((S.edges.length : Int))]).length = ru.length + 1 by simp] at he6
 subst he6
 obtain ⟨o6, ho61, ho62, HRP⟩ := HD.out.up.put (by rw [HD.out.lenu]; exact hu) ho6 hg6 hat6
 have HG6 := Aside0.mk hg6
 have HO61 := Aside0.mk ho61
 have HRP := Aside0.mk HRP
 have HT6 : Aside0 (∀ k, (vu u).ownBlock = some k → o2 k = (2, u + 1)) := ⟨(HD.out.up.row u (by rw [HD.out.lenu]; exact hu)).1⟩
 clear ho6 hb6 hg6 hat6 ho61 ho62
 have hS1 : w6.cell? ⟨p, 6, none⟩ = some (.slice (some ⟨Bu, 0, none⟩) n cu) := cell_grown HG6.out HH1.out.1 (fun e => by have h1 := HT6.out p e.symm; rw [HD.out.ptag] at h1; simp at h1)
 have hS2 : w6.cell? ⟨Bu, u, none⟩ = some (vu u) := cell_grown HG6.out HH1.out.2 (fun e => by have h1 := HT6.out Bu e.symm; rw [HD.out.up.own] at h1; simp at h1)
 have hfz : w6.frozen? ⟨Bu, u, none⟩ = false := (World.frozen?_of_block (HG6.out.block Bu HD.out.up.top (fun e => by have h1 := HT6.out Bu e.symm; rw [HD.out.up.own] at h1; simp at h1))).trans (HD.out.up.frz u)
 refine hK.out _ _ ⟨hS1, hS2⟩ (fun hHeld => ?_)
 clear hK K
 refine n_ 46 ?_
 refine p_ 15 47 ?_
 refine l_ 16 (fun K hK => ?_)
 refine skip_ (w1 := ?_) (by rfl) rfl ?_ ?_
 rotate_left; (·go_simp; rfl)
 refine hK.out _ _ ?_
 clear hK K hHeld hS1 hS2 hfz
 refine d_ ?_
 have HI5 := Aside0.mk (HD.out.upPut HO61.out (by rw [setCell_size]; exact HG6.out.size) (fun k hk ht => (Below.heap_setCell _ _ _ _ (fun e => ht (by rw [show k = Bu from e, HD.out.up.own]))).trans (HG6.out.block k hk (fun e => ht (by rw [HT6.out k e.symm])))) HRP.out (by rw [List.length_set]; exact HD.out.lenu))
 have HO5 : Aside0 (∀ k, k < w.heap.size → o6 k = o k) := ⟨fun k hk => (HO61.out k (Nat.lt_of_lt_of_le hk HED.out.size)).trans (HO2.out k hk)⟩
 have HE5 := Aside0.mk ((HED.out.grown HG6.out (fun k hk => by
  by_cases hlt : k < w.heap.size
  ·left
   unfold HT
   rw [← HO2.out k hlt, HT6.out k hk]
   simp
  ·right
   omega)).setCell ⟨Bu, u, none⟩ (.slice A6 (ru.length + 1) c6) (by
  by_cases hlt : Bu < w.heap.size
  ·left
   unfold HT
   show 2 ≤ (o Bu).1 ∧ (o Bu).1 ≤ 6
   rw [← HO2.out Bu hlt, HD.out.up.own]
   simp
  ·right
   show w.heap.size ≤ Bu
   omega))
 generalize w6.setCell ⟨Bu, u, none⟩ (.slice A6 (ru.length + 1) c6) = w5 at HI5 HE5 ⊢
 clear HI HE HS3 HD HED HH1 HG6 HO61 HRP HT6 HI2 HE2 HO2 hcp hcr
 obtain ⟨oA, hoA⟩ : ∃ q, q = o6 := ⟨_, rfl⟩
 subst hoA
 have HOA := HO5
 have HI := HI5
 have HE := HE5
 clear HO5 HI5 HE5
 go_upto_region 4 with (fail)
 have hcp := (blk_cell HI.out.blk 7).trans rfl
 have hcr := HI.out.down.cell v (by rw [HI.out.lend]; exact hv)
 refine s_ (fun w' => w'.cell? ⟨p, 7, none⟩ = some (.slice (some ⟨Bd, 0, none⟩) n cd) ∧ w'.cell? ⟨Bd, v, none⟩ = some (vd v)) [16] ⟨hcp, hcr⟩ (fun hHeld => ?_)
 have HD := Aside0.mk (HI.out.drew)
 have HED := Aside0.mk (HE.out.drew)
 generalize w5.drew = wd at HD HED hHeld ⊢
 refine p_ 0 48 ?_
 refine p_ 1 49 ?_
 refine p_ 2 50 ?_
 refine t2_ 3 51 hHeld ?_
 refine p_ 4 52 ?_
 refine p_ 5 53 ?_
 refine p_ 6 54 ?_
 refine p_ 7 55 ?_
 refine t2_ 8 56 hHeld ?_
 refine p_ 9 57 ?_
 refine p_ 10 58 ?_
 refine t2_ 11 59 hHeld ?_
 refine p_ 12 60 ?_
 have HH1 := Aside0.mk hHeld
 refine o_ 13 61 (fun K hK => ?_)
 refine value_ (w1 := ?_) (v := ?_) (by rfl) rfl ?_ ?_; rotate_left 2; (·go_simp; constructor; (·rfl); (·rfl))
 refine hK.out _ _ ⟨(World.cell?_alloc_lt _ _ _ (World.block_lt_of_cell? _ _ hHeld.1)).trans hHeld.1, (World.cell?_alloc_lt _ _ _ (World.block_lt_of_cell? _ _ hHeld.2)).trans hHeld.2⟩ (fun hHeld => ?_)
 clear hK K
 refine n_ 61 ?_
 refine o_ 14 62 (fun K hK => ?_)
 refine Kd.R_append_step (Kd.int .i64) (w0 := wd) base (by rfl) (.tmp 59) (.tmp 61) 25 3 (.int .i64 0) 8 rfl Try.underlying25 info3 rfl (by decide) (by decide) (vd v) rv_ ((u : Int)) [.int .i64 ((u : Int))] (fun _ => True) (fun _ => False) rfl rfl ?aP (fun _ hk => hk.elim) ?aF ?aO ?aB ?aS ?aL ?_
 (case aP => exact rfl)
 (case aF => exact (fun _ _ => trivial))
 (case aO => rw [← HRV.out]; exact Kd.R_mono (HD.out.down.row v (by rw [HD.out.lend]; exact hv)) (fun _ _ => trivial))
 (case aB => exact Below.refl _ _)
 (case aS => exact HD.out.base_le)
 (case aL => have := hlendown; omega)
 intro v6 w6 ho6 hb6 hg6 hat6
 obtain ⟨A6, c6, he6⟩ := Kd.R_slice ho6
 rw [show (rv_ ++ [((u : Int))]).length = rv_.length + 1 by simp] at he6
 subst he6
 obtain ⟨o6, ho61, ho62, HRP⟩ := HD.out.down.put (by rw [HD.out.lend]; exact hv) ho6 hg6 hat6
 have HG6 := Aside0.mk hg6
 have HO61 := Aside0.mk ho61
 have HRP := Aside0.mk HRP
 have HT6 : Aside0 (∀ k, (vd v).ownBlock = some k → oA k = (3, v + 1)) := ⟨(HD.out.down.row v (by rw [HD.out.lend]; exact hv)).1⟩
 clear ho6 hb6 hg6 hat6 ho61 ho62
 have hS1 : w6.cell? ⟨p, 7, none⟩ = some (.slice (some ⟨Bd, 0, none⟩) n cd) := cell_grown HG6.out HH1.out.1 (fun e => by have h1 := HT6.out p e.symm; rw [HD.out.ptag] at h1; simp at h1)
 have hS2 : w6.cell? ⟨Bd, v, none⟩ = some (vd v) := cell_grown HG6.out HH1.out.2 (fun e => by have h1 := HT6.out Bd e.symm; rw [HD.out.down.own] at h1; simp at h1)
 have hfz : w6.frozen? ⟨Bd, v, none⟩ = false := (World.frozen?_of_block (HG6.out.block Bd HD.out.down.top (fun e => by have h1 := HT6.out Bd e.symm; rw [HD.out.down.own] at h1; simp at h1))).trans (HD.out.down.frz v)
 refine hK.out _ _ ⟨hS1, hS2⟩ (fun hHeld => ?_)
 clear hK K
 refine n_ 62 ?_
 refine p_ 15 63 ?_
 refine l_ 16 (fun K hK => ?_)
 refine skip_ (w1 := ?_) (by rfl) rfl ?_ ?_
 rotate_left; (·go_simp; rfl)
 refine hK.out _ _ ?_
 clear hK K hHeld hS1 hS2 hfz
 refine d_ ?_
 have HI7 := Aside0.mk (HD.out.downPut HO61.out (by rw [setCell_size]; exact HG6.out.size) (fun k hk ht => (Below.heap_setCell _ _ _ _ (fun e => ht (by rw [show k = Bd from e, HD.out.down.own]))).trans (HG6.out.block k hk (fun e => ht (by rw [HT6.out k e.symm])))) HRP.out (by rw [List.length_set]; exact HD.out.lend))
 have HO7 : Aside0 (∀ k, k < w.heap.size → o6 k = o k) := ⟨fun k hk => (HO61.out k (Nat.lt_of_lt_of_le hk HED.out.size)).trans (HOA.out k hk)⟩
 have HE7 := Aside0.mk ((HED.out.grown HG6.out (fun k hk => by
  by_cases hlt : k < w.heap.size
  ·left
   unfold HT
   rw [← HOA.out k hlt, HT6.out k hk]
   simp
  ·right
   omega)).setCell ⟨Bd, v, none⟩ (.slice A6 (rv_.length + 1) c6) (by
  by_cases hlt : Bd < w.heap.size
  ·left
   unfold HT
   show 2 ≤ (o Bd).1 ∧ (o Bd).1 ≤ 6
   rw [← HOA.out Bd hlt, HD.out.down.own]
   simp
  ·right
   show w.heap.size ≤ Bd
   omega))
 generalize w6.setCell ⟨Bd, v, none⟩ (.slice A6 (rv_.length + 1) c6) = w7 at HI7 HE7 ⊢
 go_wp2
 go_end0
 have hfin := HI7.out
 rw [← HRU.out, ← HRV.out] at hfin
 exact ⟨rfl, HE7.out, o6, HO7.out, _, _, _, hfin⟩
end Go.Proofs.Ytfnophaiamkmpaa.Print
