/- Elimination of lists of keys and elimination of tables of flags go the same way. -/
import Derived.Test.YtnnknbghfbjcnaaHRMin
import Derived.Test.YtnnknbghfbjcnaaHRFill
import Derived.Test.YtnnknbghfbjcnaaHOMin
namespace Go.Proofs.Ytnnknbghfbjcnaa.Print
open Go.RowKit Go.Proofs.YtnnknbghfbjcnaaW.PrintWords Go.Proofs.YtnnknbghfbjcnaaW.PrintLast Go.Proofs.YtnnknbghfbjcnaaW.PrintMore
set_option linter.unusedVariables false
set_option linter.unusedSimpArgs false

/-! ### 1. Counts -/
/-- How many of the d places from x on have p. -/
def cf (p : Nat → Bool) : Nat → Nat → Nat
  | 0, _ => 0
  | d + 1, x => (if p x = true then 1 else 0) + cf p d (x + 1)
theorem cf_congr {p q : Nat → Bool} : ∀ (d x : Nat), (∀ y, x ≤ y → y < x + d → p y = q y) → cf p d x = cf q d x
  | 0, _, _ => rfl
  | d + 1, x, h => by
    unfold cf
    rw [h x (by omega) (by omega), cf_congr d (x + 1) (fun y h1 h2 => h y (by omega) (by omega))]
theorem cf_le (p : Nat → Bool) : ∀ d x, cf p d x ≤ d
  | 0, _ => Nat.le_refl _
  | d + 1, x => by
    have := cf_le p d (x + 1)
    unfold cf
    split <;> omega
theorem cf_last (p : Nat → Bool) : ∀ d x, cf p (d + 1) x = cf p d x + (if p (x + d) = true then 1 else 0)
  | 0, x => by simp [cf]
  | d + 1, x => by
    have ih := cf_last p d (x + 1)
    have e : cf p (d + 1 + 1) x = (if p x = true then 1 else 0) + cf p (d + 1) (x + 1) := rfl
    have e2 : cf p (d + 1) x = (if p x = true then 1 else 0) + cf p d (x + 1) := rfl
    rw [e, e2, ih, show x + 1 + d = x + (d + 1) by omega]
    omega
/-- The sum over the places from u on of the later places that P joins with it; the same, the later place first. -/
def sf (P : Nat → Nat → Bool) (n : Nat) : Nat → Nat → Nat
  | 0, _ => 0
  | d + 1, u => cf (P u) (n - (u + 1)) (u + 1) + sf P n d (u + 1)
def sl (P : Nat → Nat → Bool) : Nat → Nat
  | 0 => 0
  | n + 1 => sl P n + cf (fun u => P u n) n 0
theorem sf_grow (P : Nat → Nat → Bool) (n : Nat) : ∀ d u, u + d = n → sf P (n + 1) d u = sf P n d u + cf (fun w => P w n) d u
  | 0, u, _ => rfl
  | d + 1, u, h => by
    have ih := sf_grow P n d (u + 1) (by omega)
    have e : ∀ m, sf P m (d + 1) u = cf (P u) (m - (u + 1)) (u + 1) + sf P m d (u + 1) := fun _ => rfl
    have e2 : cf (fun w => P w n) (d + 1) u = (if P u n = true then 1 else 0) + cf (fun w => P w n) d (u + 1) := rfl
    rw [e, e, e2, ih, show n + 1 - (u + 1) = (n - (u + 1)) + 1 by omega, cf_last, show u + 1 + (n - (u + 1)) = n by omega]
    omega
theorem sf_last (P : Nat → Nat → Bool) (n : Nat) : ∀ d u, u + d = n → sf P (n + 1) (d + 1) u = sf P (n + 1) d u
  | 0, u, h => by
    have hu : u = n := by omega
    subst hu
    simp [sf, cf]
  | d + 1, u, h => by
    have ih := sf_last P n d (u + 1) (by omega)
    have e : ∀ m, sf P (n + 1) (m + 1) u = cf (P u) (n + 1 - (u + 1)) (u + 1) + sf P (n + 1) m (u + 1) := fun _ => rfl
    rw [e, e, ih]
theorem sf_sl (P : Nat → Nat → Bool) : ∀ n, sf P n n 0 = sl P n
  | 0 => rfl
  | n + 1 => by
    rw [sf_last P n n 0 (by omega), sf_grow P n n 0 (by omega), sf_sl P n]
    rfl
theorem sl_congr {P Q : Nat → Nat → Bool} : ∀ n, (∀ u x, u < x → x < n → P u x = Q u x) → sl P n = sl Q n
  | 0, _ => rfl
  | n + 1, h => by
    unfold sl
    rw [sl_congr n (fun u x h1 h2 => h u x h1 (by omega)), cf_congr n 0 (fun y _ hy => h y n (by omega) (by omega))]

/-! ### 2. The reference's elimination -/
theorem mset2 {M : Mat} {u x a b : Nat} : mset (mset M u x) x u a b = true ↔ M a b = true ∨ (a = u ∧ b = x) ∨ (a = x ∧ b = u) := by
  unfold mset
  by_cases h1 : a = x ∧ b = u
  · simp [h1]
  · by_cases h2 : a = u ∧ b = x
    · rw [if_neg h1, if_pos h2]
      exact ⟨fun _ => .inr (.inl h2), fun _ => rfl⟩
    · rw [if_neg h1, if_neg h2]
      constructor
      · exact .inl
      · rintro (h | h | h)
        · exact h
        · exact absurd h h2
        · exact absurd h h1
def Cnd (M : Mat) (g : Nat → Bool) (v a b : Nat) : Prop := M v a = true ∧ M v b = true ∧ g a = false ∧ g b = false
def nwB (M : Mat) (g : Nat → Bool) (v u x : Nat) : Bool := M v u && M v x && !g u && !g x && !M u x
theorem nwB_iff {M : Mat} {g : Nat → Bool} {v u x : Nat} : nwB M g v u x = true ↔ Cnd M g v u x ∧ M u x = false := by
  unfold nwB Cnd
  simp [and_assoc]
theorem bool_iff {a b : Bool} (h : a = true ↔ b = true) : a = b := by
  cases a <;> cases b <;> simp_all
theorem tIn_spec {v u n : Nat} {g : Nat → Bool} (hv : g v = true) : ∀ (d x : Nat) (M : Mat) (c : Nat), x + d = n → u < x → (∀ a b, M a b = true → M b a = true) → c + d < 1000000000000000 →
    (∀ a b, (tIn v u g d x M c).1 a b = true ↔ M a b = true ∨ (((a = u ∧ x ≤ b ∧ b < n) ∨ (b = u ∧ x ≤ a ∧ a < n)) ∧ Cnd M g v a b)) ∧ (tIn v u g d x M c).2 = ((c + cf (nwB M g v u) d x : Nat) : Int)
  | 0, x, M, c, h, hux, hs, hc => by
    refine ⟨fun a b => ?_, by simp [tIn, cf]⟩
    show M a b = true ↔ _
    constructor
    · exact .inl
    · rintro (h1 | ⟨⟨_, h1, h2⟩ | ⟨_, h1, h2⟩, _⟩)
      · exact h1
      · omega
      · omega
  | d + 1, x, M, c, h, hux, hs, hc => by
    have hcf : cf (nwB M g v u) (d + 1) x = (if nwB M g v u x = true then 1 else 0) + cf (nwB M g v u) d (x + 1) := rfl
    unfold tIn
    by_cases hp : M v u = true ∧ M v x = true ∧ g u = false ∧ g x = false ∧ M u x = false
    · rw [if_pos hp]
      have hw : wrap64 ((c : Int) + 1) = ((c + 1 : Nat) : Int) := by unfold wrap64; omega
      rw [hw]
      have hs1 : ∀ a b, mset (mset M u x) x u a b = true → mset (mset M u x) x u b a = true := fun a b hab => by
        rw [mset2] at hab ⊢
        rcases hab with h1 | h1 | h1
        · exact .inl (hs a b h1)
        · exact .inr (.inr ⟨h1.2, h1.1⟩)
        · exact .inr (.inl ⟨h1.2, h1.1⟩)
      have hvu : v ≠ u := fun e => by rw [e] at hv; rw [hp.2.2.1] at hv; cases hv
      have hvx : v ≠ x := fun e => by rw [e] at hv; rw [hp.2.2.2.1] at hv; cases hv
      have hrow : ∀ a, mset (mset M u x) x u v a = M v a := fun a => bool_iff (by
        rw [mset2]
        constructor
        · rintro (h1 | h1 | h1)
          · exact h1
          · exact absurd h1.1 hvu
          · exact absurd h1.1 hvx
        · exact .inl)
      have hcnd : ∀ a b, Cnd (mset (mset M u x) x u) g v a b ↔ Cnd M g v a b := fun a b => by
        unfold Cnd
        rw [hrow, hrow]
      obtain ⟨h1, h2⟩ := tIn_spec (u := u) (n := n) hv d (x + 1) (mset (mset M u x) x u) (c + 1) (by omega) (by omega) hs1 (by omega)
      refine ⟨fun a b => ?_, ?_⟩
      · rw [h1 a b, mset2, hcnd]
        constructor
        · rintro ((h3 | ⟨rfl, rfl⟩ | ⟨rfl, rfl⟩) | ⟨⟨rfl, h3, h4⟩ | ⟨rfl, h3, h4⟩, h5⟩)
          · exact .inl h3
          · exact .inr ⟨.inl ⟨rfl, Nat.le_refl _, by omega⟩, hp.1, hp.2.1, hp.2.2.1, hp.2.2.2.1⟩
          · exact .inr ⟨.inr ⟨rfl, Nat.le_refl _, by omega⟩, hp.2.1, hp.1, hp.2.2.2.1, hp.2.2.1⟩
          · exact .inr ⟨.inl ⟨rfl, by omega, h4⟩, h5⟩
          · exact .inr ⟨.inr ⟨rfl, by omega, h4⟩, h5⟩
        · rintro (h3 | ⟨⟨rfl, h3, h4⟩ | ⟨rfl, h3, h4⟩, h5⟩)
          · exact .inl (.inl h3)
          · by_cases e : b = x
            · exact .inl (.inr (.inl ⟨rfl, e⟩))
            · exact .inr ⟨.inl ⟨rfl, by omega, h4⟩, h5⟩
          · by_cases e : a = x
            · exact .inl (.inr (.inr ⟨e, rfl⟩))
            · exact .inr ⟨.inr ⟨rfl, by omega, h4⟩, h5⟩
      · rw [h2, hcf]
        have he : nwB M g v u x = true := nwB_iff.2 ⟨⟨hp.1, hp.2.1, hp.2.2.1, hp.2.2.2.1⟩, hp.2.2.2.2⟩
        rw [if_pos he]
        have hcg : cf (nwB (mset (mset M u x) x u) g v u) d (x + 1) = cf (nwB M g v u) d (x + 1) := cf_congr d (x + 1) fun y hy1 hy2 => by
          have hmu : mset (mset M u x) x u u y = M u y := bool_iff (by
            rw [mset2]
            constructor
            · rintro (h3 | h3 | h3)
              · exact h3
              · omega
              · omega
            · exact .inl)
          unfold nwB
          rw [hrow, hrow, hmu]
        rw [hcg]
        omega
    · rw [if_neg hp]
      obtain ⟨h1, h2⟩ := tIn_spec (u := u) (n := n) hv d (x + 1) M c (by omega) (by omega) hs (by omega)
      refine ⟨fun a b => ?_, ?_⟩
      · rw [h1 a b]
        constructor
        · rintro (h3 | ⟨⟨rfl, h3, h4⟩ | ⟨rfl, h3, h4⟩, h5⟩)
          · exact .inl h3
          · exact .inr ⟨.inl ⟨rfl, by omega, h4⟩, h5⟩
          · exact .inr ⟨.inr ⟨rfl, by omega, h4⟩, h5⟩
        · have hno : Cnd M g v u x → M u x = true := fun h3 => by
            cases hm : M u x with
            | true => rfl
            | false => exact absurd ⟨h3.1, h3.2.1, h3.2.2.1, h3.2.2.2, hm⟩ hp
          rintro (h3 | ⟨⟨rfl, h3, h4⟩ | ⟨rfl, h3, h4⟩, h5⟩)
          · exact .inl h3
          · by_cases e : b = x
            · subst e
              exact .inl (hno h5)
            · exact .inr ⟨.inl ⟨rfl, by omega, h4⟩, h5⟩
          · by_cases e : a = x
            · subst e
              exact .inl (hs _ _ (hno ⟨h5.2.1, h5.1, h5.2.2.2, h5.2.2.1⟩))
            · exact .inr ⟨.inr ⟨rfl, by omega, h4⟩, h5⟩
      · rw [h2, hcf]
        have he : ¬ nwB M g v u x = true := fun h3 => by
          have h4 := nwB_iff.1 h3
          exact hp ⟨h4.1.1, h4.1.2.1, h4.1.2.2.1, h4.1.2.2.2, h4.2⟩
        rw [if_neg he]
        simp
theorem tOut_spec {v n : Nat} {g : Nat → Bool} (hv : g v = true) (hn : n ≤ 20000) : ∀ (d u : Nat) (M : Mat) (c : Nat), u + d = n → (∀ a b, M a b = true → M b a = true) → c + d * n < 1000000000 →
    (∀ a b, (tOut v n g d u M c).1 a b = true ↔ M a b = true ∨ (u ≤ a ∧ u ≤ b ∧ a < n ∧ b < n ∧ a ≠ b ∧ Cnd M g v a b)) ∧ (tOut v n g d u M c).2 = ((c + sf (nwB M g v) n d u : Nat) : Int)
  | 0, u, M, c, h, hs, hc => by
    refine ⟨fun a b => ?_, by simp [tOut, sf]⟩
    show M a b = true ↔ _
    constructor
    · exact .inl
    · rintro (h1 | ⟨h1, h2, h3, _⟩)
      · exact h1
      · omega
  | d + 1, u, M, c, h, hs, hc => by
    have hcm : (d + 1) * n = d * n + n := Nat.succ_mul d n
    obtain ⟨h1, h2⟩ := tIn_spec (u := u) (n := n) hv (n - (u + 1)) (u + 1) M c (by omega) (by omega) hs (by omega)
    have hrow : ∀ a, (tIn v u g (n - (u + 1)) (u + 1) M c).1 v a = M v a := fun a => bool_iff (by
      rw [h1]
      constructor
      · rintro (h3 | ⟨_, h3⟩)
        · exact h3
        · have := h3.2.2.1
          rw [hv] at this
          cases this
      · exact .inl)
    have hcnd : ∀ a b, Cnd (tIn v u g (n - (u + 1)) (u + 1) M c).1 g v a b ↔ Cnd M g v a b := fun a b => by
      unfold Cnd
      rw [hrow, hrow]
    have hs1 : ∀ a b, (tIn v u g (n - (u + 1)) (u + 1) M c).1 a b = true → (tIn v u g (n - (u + 1)) (u + 1) M c).1 b a = true := fun a b hab => by
      rw [h1] at hab ⊢
      rcases hab with h3 | ⟨h3 | h3, h4⟩
      · exact .inl (hs a b h3)
      · exact .inr ⟨.inr h3, h4.2.1, h4.1, h4.2.2.2, h4.2.2.1⟩
      · exact .inr ⟨.inl h3, h4.2.1, h4.1, h4.2.2.2, h4.2.2.1⟩
    have hcl := cf_le (nwB M g v u) (n - (u + 1)) (u + 1)
    unfold tOut
    rw [h2]
    obtain ⟨h3, h4⟩ := tOut_spec hv hn d (u + 1) (tIn v u g (n - (u + 1)) (u + 1) M c).1 (c + cf (nwB M g v u) (n - (u + 1)) (u + 1)) (by omega) hs1 (by omega)
    refine ⟨fun a b => ?_, ?_⟩
    · rw [h3 a b, h1 a b, hcnd]
      constructor
      · rintro ((h5 | ⟨⟨rfl, h5, h6⟩ | ⟨rfl, h5, h6⟩, h7⟩) | ⟨h5, h6, h7, h8, h9, h10⟩)
        · exact .inl h5
        · exact .inr ⟨Nat.le_refl _, by omega, by omega, h6, by omega, h7⟩
        · exact .inr ⟨by omega, Nat.le_refl _, h6, by omega, by omega, h7⟩
        · exact .inr ⟨by omega, by omega, h7, h8, h9, h10⟩
      · rintro (h5 | ⟨h5, h6, h7, h8, h9, h10⟩)
        · exact .inl (.inl h5)
        · by_cases ea : a = u
          · exact .inl (.inr ⟨.inl ⟨ea, by omega, h8⟩, h10⟩)
          · by_cases eb : b = u
            · exact .inl (.inr ⟨.inr ⟨eb, by omega, h7⟩, h10⟩)
            · exact .inr ⟨by omega, by omega, h7, h8, h9, h10⟩
    · rw [h4]
      have e : sf (nwB M g v) n (d + 1) u = cf (nwB M g v u) (n - (u + 1)) (u + 1) + sf (nwB M g v) n d (u + 1) := rfl
      have hsg : ∀ (d' u' : Nat), u < u' → u' + d' = n → sf (nwB (tIn v u g (n - (u + 1)) (u + 1) M c).1 g v) n d' u' = sf (nwB M g v) n d' u' := by
        intro d'
        induction d' with
        | zero => intro u' _ _; rfl
        | succ d' ih =>
          intro u' hu' hd'
          unfold sf
          rw [ih (u' + 1) (by omega) (by omega)]
          congr 1
          refine cf_congr _ _ fun y hy1 hy2 => ?_
          have hmu : (tIn v u g (n - (u + 1)) (u + 1) M c).1 u' y = M u' y := bool_iff (by
            rw [h1]
            constructor
            · rintro (h5 | ⟨h5 | h5, _⟩)
              · exact h5
              · omega
              · omega
            · exact .inl)
          unfold nwB
          rw [hrow, hrow, hmu]
      rw [e, hsg d (u + 1) (by omega) (by omega)]
      congr 1
      omega
end Go.Proofs.Ytnnknbghfbjcnaa.Print

namespace Go.Proofs.Ytnnknbghfbjcnaa.Print
open Go.RowKit Go.Proofs.YtnnknbghfbjcnaaW.PrintWords Go.Proofs.YtnnknbghfbjcnaaW.PrintLast Go.Proofs.YtnnknbghfbjcnaaW.PrintMore
set_option linter.unusedVariables false
set_option linter.unusedSimpArgs false

/-- G holds what M and g hold. -/
structure Lk (n : Nat) (G : Nbs) (M : Mat) (g : Nat → Bool) : Prop where
  len : G.length = n
  good : Good G
  al : ∀ x : Nat, x < n → (Alive G x ↔ g x = false)
  adj : ∀ x y : Nat, x < n → y < n → g x = false → ((y : Int) ∈ kOf G x ↔ M x y = true ∧ g y = false)
  sym : ∀ a b, M a b = true → M b a = true
section
variable {n : Nat} {G : Nbs} {M : Mat} {g : Nat → Bool}
theorem Lk.nat (h : Lk n G M g) {v : Nat} (hv : v < n) (hg : g v = false) {x : Int} (hx : x ∈ kOf G v) : ∃ y : Nat, x = (y : Int) ∧ y < n ∧ g y = false := by
  have ha := h.good.ali v ((h.al v hv).2 hg) x hx
  obtain ⟨y, rfl⟩ := Int.eq_ofNat_of_zero_le ha.1
  have hy : y < n := by have := ha.2.1; rw [h.len] at this; simpa using this
  exact ⟨y, rfl, hy, (h.al y hy).1 ha⟩
theorem count_keys : ∀ (n : Nat) (ks : List Int), ks.Nodup → (∀ x ∈ ks, 0 ≤ x ∧ x < n) → cf (fun u => decide ((u : Int) ∈ ks)) n 0 = ks.length
  | 0, ks, _, h => by
    cases ks with
    | nil => rfl
    | cons a r => exact absurd (h a (by simp)) (by omega)
  | n + 1, ks, hnd, h => by
    have ih := count_keys n (ks.erase (n : Int)) (hnd.erase _) (fun x hx => by
      have hx' := (List.Nodup.mem_erase_iff hnd).1 hx
      have h1 := h x hx'.2
      have h2 := hx'.1
      omega)
    rw [cf_last, Nat.zero_add]
    have hc : cf (fun u => decide ((u : Int) ∈ ks)) n 0 = cf (fun u => decide ((u : Int) ∈ ks.erase (n : Int))) n 0 := cf_congr n 0 fun y _ hy => by
      have hiff : ((y : Int) ∈ ks) ↔ (y : Int) ∈ ks.erase (n : Int) := by
        rw [List.Nodup.mem_erase_iff hnd]
        exact ⟨fun h => ⟨by omega, h⟩, fun h => h.2⟩
      simp only [hiff]
    rw [hc, ih, List.length_erase]
    by_cases hm : (n : Int) ∈ ks
    · have : 0 < ks.length := List.length_pos_of_mem hm
      simp [hm]
      omega
    · simp [hm]
theorem degT_cf (M : Mat) (g : Nat → Bool) (v : Nat) : ∀ n, degT M g v n = cf (fun u => M v u && !g u) n 0
  | 0 => rfl
  | n + 1 => by
    rw [cf_last, ← degT_cf M g v n]
    show degT M g v n + _ = _
    congr 1
    cases hM : M v n <;> cases hg : g n <;> simp [hM, hg]
theorem Lk.deg (h : Lk n G M g) {v : Nat} (hv : v < n) (hg : g v = false) : dgOf G v = degT M g v n := by
  have ha := (h.al v hv).2 hg
  rw [degT_cf]
  unfold dgOf
  rw [← count_keys n (kOf G v) (h.good.nd v ha) (fun x hx => by obtain ⟨y, rfl, hy, _⟩ := h.nat hv hg hx; omega)]
  refine cf_congr n 0 fun y _ hy => bool_iff ?_
  have := h.adj v y hv (by omega) hg
  simp only [decide_eq_true_eq, this, Bool.and_eq_true, Bool.not_eq_true']
theorem Lk.al' (h : Lk n G M g) {x : Nat} (hx : x < n) : alOf G x = !g x := by
  have h1 := h.al x hx
  rw [alive_al, h.len] at h1
  refine bool_iff ?_
  constructor
  · intro h2
    have := h1.1 ⟨hx, h2⟩
    simp [this]
  · intro h2
    exact (h1.2 (by simpa using h2)).2
theorem Lk.best (h : Lk n G M g) : bestOf G n = rbest n M g n := by
  unfold bestOf rbest
  exact bestF_congr n (fun x hx => h.al' hx) (fun x hx ha => h.deg hx (by rw [h.al' hx] at ha; simpa using ha))
/-- The new pairs, counted along the sorted list of the neighbours. -/
theorem newOf_snoc (G : Nbs) (z : Int) : ∀ (r D : List Int), newOf G D (r ++ [z]) = newOf G D r + (D ++ r).countP (fun w => !decide (w ∈ kOf G z))
  | [], D => by simp [newOf]
  | u :: r, D => by
    show _ + newOf G (D ++ [u]) (r ++ [z]) = _ + newOf G (D ++ [u]) r + _
    rw [newOf_snoc G z r (D ++ [u])]
    simp [Nat.add_assoc]
def selN (q : Nat → Bool) : Nat → List Int
  | 0 => []
  | n + 1 => selN q n ++ (if q n = true then [(n : Int)] else [])
theorem mem_selN {q : Nat → Bool} {x : Int} : ∀ {n : Nat}, x ∈ selN q n ↔ ∃ y : Nat, x = (y : Int) ∧ y < n ∧ q y = true
  | 0 => by simp [selN]
  | n + 1 => by
    unfold selN
    rw [List.mem_append, mem_selN]
    constructor
    · rintro (⟨y, h1, h2, h3⟩ | h)
      · exact ⟨y, h1, by omega, h3⟩
      · split at h
        · rename_i hq
          simp at h
          exact ⟨n, h, by omega, hq⟩
        · cases h
    · rintro ⟨y, h1, h2, h3⟩
      by_cases e : y = n
      · subst e
        right
        rw [if_pos h3, h1]
        simp
      · exact .inl ⟨y, h1, by omega, h3⟩
theorem inc_selN (q : Nat → Bool) : ∀ n, Inc (selN q n)
  | 0 => List.Pairwise.nil
  | n + 1 => by
    unfold selN Inc
    rw [List.pairwise_append]
    refine ⟨inc_selN q n, ?_, ?_⟩
    · split <;> simp
    · intro a ha b hb
      obtain ⟨y, rfl, hy, _⟩ := mem_selN.1 ha
      split at hb
      · simp at hb
        omega
      · cases hb
theorem countP_selN (q : Nat → Bool) (p : Int → Bool) : ∀ n, (selN q n).countP p = cf (fun u => q u && p (u : Int)) n 0
  | 0 => rfl
  | n + 1 => by
    unfold selN
    rw [List.countP_append, countP_selN q p n, cf_last, Nat.zero_add]
    cases q n <;> simp [List.countP_cons]
theorem newOf_selN (G : Nbs) (q : Nat → Bool) : ∀ n, newOf G [] (selN q n) = sl (fun u x => q u && (q x && !decide ((u : Int) ∈ kOf G x))) n
  | 0 => rfl
  | n + 1 => by
    have ih := newOf_selN G q n
    unfold selN sl
    cases hq : q n with
    | false =>
      have h0 : cf (fun u => q u && (false && !decide ((u : Int) ∈ kOf G n))) n 0 = 0 := by
        have : ∀ d x, cf (fun u => q u && (false && !decide ((u : Int) ∈ kOf G n))) d x = 0 := by
          intro d
          induction d with
          | zero => intro x; rfl
          | succ d ih => intro x; unfold cf; rw [ih]; simp
        exact this n 0
      simp only [Bool.false_eq_true, if_false, List.append_nil]
      rw [ih, h0, Nat.add_zero]
    | true =>
      simp only [if_true]
      rw [newOf_snoc, ih, List.nil_append, countP_selN]
      congr 1
/-- One elimination. -/
theorem Lk.elim (h : Lk n G M g) (hn : n ≤ 20000) {v : Nat} (hv : v < n) (hg : g v = false) : Lk n (elim G v).1 (tElim M g v n).1 (gset g v) ∧ (elim G v).2 = (tElim M g v n).2 := by
  have ha := (h.al v hv).2 hg
  obtain ⟨e1, e2, e3, e4, e5⟩ := elim_spec h.good ha (by rw [h.len]; exact hn)
  have hgv : gset g v v = true := by simp [gset]
  have hnn : 0 + n * n < 1000000000 := by
    have : n * n ≤ 20000 * 20000 := Nat.mul_le_mul hn hn
    omega
  obtain ⟨t1, t2⟩ := tOut_spec (g := gset g v) hgv hn n 0 M 0 (by omega) h.sym hnn
  have hgs : ∀ x, gset g v x = false ↔ x ≠ v ∧ g x = false := fun x => by
    unfold gset
    by_cases e : x = v
    · simp [e]
    · simp [e]
  refine ⟨⟨by rw [e2]; exact h.len, e3, fun x hx => ?_, fun x y hx hy hgx => ?_, fun a b hab => ?_⟩, ?_⟩
  · rw [e1, h.al x hx, hgs]
    constructor
    · rintro ⟨a, b⟩
      exact ⟨fun e => b (by rw [e]), a⟩
    · rintro ⟨a, b⟩
      exact ⟨b, fun e => a (by omega)⟩
  · obtain ⟨hxv, hgx2⟩ := (hgs x).1 hgx
    have hax := (h.al x hx).2 hgx2
    rw [e4 x y hax (by omega)]
    show _ ↔ (tOut v n (gset g v) n 0 M ((0 : Nat) : Int)).1 x y = true ∧ _
    rw [t1, hgs, h.adj x y hx hy hgx2, h.adj v x hv hx hg, h.adj v y hv hy hg]
    unfold Cnd
    rw [hgs, hgs]
    constructor
    · rintro ⟨h1, ⟨h2, h3⟩ | ⟨h2, ⟨h3, h4⟩, h5, h6⟩⟩
      · exact ⟨.inl h2, by omega, h3⟩
      · exact ⟨.inr ⟨Nat.zero_le _, Nat.zero_le _, hx, hy, by omega, h3, h5, ⟨hxv, h4⟩, by omega, h6⟩, by omega, h6⟩
    · rintro ⟨h1 | ⟨_, _, _, _, h1, h2, h3, _, h4, h5⟩, h6, h7⟩
      · exact ⟨by omega, .inl ⟨h1, h7⟩⟩
      · exact ⟨by omega, .inr ⟨by omega, ⟨h2, hgx2⟩, h3, h5⟩⟩
  · have hab' : (tOut v n (gset g v) n 0 M ((0 : Nat) : Int)).1 a b = true := hab
    show (tOut v n (gset g v) n 0 M ((0 : Nat) : Int)).1 b a = true
    rw [t1] at hab' ⊢
    rcases hab' with h1 | ⟨_, _, h1, h2, h3, h4⟩
    · exact .inl (h.sym a b h1)
    · exact .inr ⟨Nat.zero_le _, Nat.zero_le _, h2, h1, fun e => h3 e.symm, h4.2.1, h4.1, h4.2.2.2, h4.2.2.1⟩
  · show _ = (tOut v n (gset g v) n 0 M ((0 : Nat) : Int)).2
    rw [e5, t2, Nat.zero_add, sf_sl]
    have hL : setOf (kOf G v) = selN (fun u => M v u && !gset g v u) n := by
      refine inc_unique (inc_setOf _) (inc_selN _ n) fun x => ?_
      rw [mem_setOf, mem_selN]
      constructor
      · intro hx
        obtain ⟨y, rfl, hy, hgy⟩ := h.nat hv hg hx
        have hm := (h.adj v y hv hy hg).1 hx
        have hyv : y ≠ v := fun e => h.good.irr v ha (by rw [e] at hx; exact hx)
        exact ⟨y, rfl, hy, by rw [hm.1, (hgs y).2 ⟨hyv, hgy⟩]; rfl⟩
      · rintro ⟨y, rfl, hy, hq⟩
        simp only [Bool.and_eq_true, Bool.not_eq_true'] at hq
        exact (h.adj v y hv hy hg).2 ⟨hq.1, ((hgs y).1 hq.2).2⟩
    rw [hL, newOf_selN]
    congr 1
    refine sl_congr n fun u x hux hx => bool_iff ?_
    rw [nwB_iff]
    unfold Cnd
    simp only [Bool.and_eq_true, Bool.not_eq_true', decide_eq_false_iff_not]
    constructor
    · rintro ⟨⟨h1, h2⟩, ⟨h3, h4⟩, h5⟩
      refine ⟨⟨h1, h3, h2, h4⟩, ?_⟩
      have hgu := ((hgs u).1 h2).2
      have hgx := ((hgs x).1 h4).2
      cases hm : M u x with
      | false => rfl
      | true => exact absurd ((h.adj x u hx (by omega) hgx).2 ⟨h.sym _ _ hm, hgu⟩) h5
    · rintro ⟨⟨h1, h2, h3, h4⟩, h5⟩
      have hgx := ((hgs x).1 h4).2
      refine ⟨⟨h1, h3⟩, ⟨h2, h4⟩, fun h6 => ?_⟩
      have := ((h.adj x u hx (by omega) hgx).1 h6).1
      rw [h.sym _ _ this] at h5
      cases h5
theorem Lk.min (hn : n ≤ 20000) : ∀ (d : Nat) {G : Nbs} {M : Mat} {g : Nat → Bool}, Lk n G M g → minGo d G = rminGo n d M g
  | 0, _, _, _, _ => rfl
  | d + 1, G, M, g, h => by
    unfold minGo rminGo
    rw [h.len, h.best]
    cases hb : rbest n M g n with
    | none => rfl
    | some b =>
      obtain ⟨hb1, hb2⟩ := rbest_lt hb
      simp only
      rw [Lk.min hn d (h.elim hn hb1 hb2).1]
theorem Lk.fill (hn : n ≤ 20000) : ∀ (L : List Int) (seen : List Int) {G : Nbs} {M : Mat} {g : Nat → Bool} (f len : Int), Lk n G M g → (∀ x : Nat, x < n → ¬ (x : Int) ∈ seen → g x = false) → ordGo n len seen L = 0 → fillGo L G f = rfillGo n L M g f
  | [], _, _, _, _, _, _, _, _, _ => rfl
  | v :: r, seen, G, M, g, f, len, h, hs, ho => by
    obtain ⟨h1, h2, h3, h4⟩ := ordGo_cons ho
    obtain ⟨b, rfl⟩ := Int.eq_ofNat_of_zero_le h1
    have hb : b < n := by omega
    have hg := hs b hb h3
    obtain ⟨e1, e2⟩ := h.elim hn hb hg
    unfold fillGo rfillGo
    rw [Int.toNat_natCast, e2]
    refine Lk.fill hn r ((b : Int) :: seen) _ len e1 (fun x hx hxs => ?_) h4
    rw [List.mem_cons] at hxs
    unfold gset
    rw [if_neg (fun e => hxs (.inl (by rw [e])))]
    exact hs x hx (fun h => hxs (.inr h))
end
theorem stM_iff {l : List S40} {n : Nat} (har : ∀ (j : Nat) (hj : j < l.length), 0 ≤ l[j].f0 ∧ l[j].f0 < (n : Int) ∧ 0 ≤ l[j].f1 ∧ l[j].f1 < (n : Int)) {a b : Nat} : ∀ j, j ≤ l.length →
    (stM l j a b = true ↔ a ≠ b ∧ ∃ (i : Nat) (hi : i < l.length), i < j ∧ ((l[i].f0 = (a : Int) ∧ l[i].f1 = (b : Int)) ∨ (l[i].f1 = (a : Int) ∧ l[i].f0 = (b : Int))))
  | 0, _ => by
    constructor
    · intro h; cases h
    · rintro ⟨_, i, _, hi, _⟩; omega
  | j + 1, h => by
    have hj : j < l.length := by omega
    have ih := stM_iff har (a := a) (b := b) j (by omega)
    obtain ⟨f1, f2, f3, f4⟩ := har j hj
    have e : l.getD j z40 = l[j] := by simp [List.getElem?_eq_getElem hj]
    unfold stM
    rw [e]
    by_cases hloop : l[j].f0 = l[j].f1
    · rw [if_pos hloop, ih]
      constructor
      · rintro ⟨h1, i, hi, h2, h3⟩
        exact ⟨h1, i, hi, by omega, h3⟩
      · rintro ⟨h1, i, hi, h2, h3⟩
        by_cases e2 : i = j
        · subst e2
          clear ih
          rcases h3 with ⟨h4, h5⟩ | ⟨h4, h5⟩ <;> omega
        · exact ⟨h1, i, hi, by omega, h3⟩
    · rw [if_neg hloop, mset2, ih]
      constructor
      · rintro (⟨h1, i, hi, h2, h3⟩ | ⟨h1, h2⟩ | ⟨h1, h2⟩)
        · exact ⟨h1, i, hi, by omega, h3⟩
        · exact ⟨by omega, j, hj, by omega, .inl ⟨by omega, by omega⟩⟩
        · exact ⟨by omega, j, hj, by omega, .inr ⟨by omega, by omega⟩⟩
      · rintro ⟨h1, i, hi, h2, h3⟩
        by_cases e2 : i = j
        · subst e2
          rcases h3 with ⟨h4, h5⟩ | ⟨h4, h5⟩
          · exact .inr (.inl ⟨by omega, by omega⟩)
          · exact .inr (.inr ⟨by omega, by omega⟩)
        · exact .inl ⟨h1, i, hi, by omega, h3⟩
theorem lk_start {n : Nat} {l : List S40} (hc : chk (n : Int) l = 0) : Lk n (nbsOf (nbRows n l)) (stM l l.length) (fun _ => false) := by
  obtain ⟨_, _, har⟩ := chk_ok hc
  have hM : ∀ a b : Nat, stM l l.length a b = true ↔ Adj l a b := fun a b => by
    rw [stM_iff har l.length (Nat.le_refl _)]
    constructor
    · rintro ⟨h1, i, hi, _, h2⟩
      exact ⟨h1, l[i], List.getElem_mem hi, h2⟩
    · rintro ⟨h1, x, hx, h2⟩
      obtain ⟨i, hi, rfl⟩ := List.mem_iff_getElem.1 hx
      exact ⟨h1, i, hi, hi, h2⟩
  refine ⟨nbs_length n l, by have := nbs_good hc; rwa [Int.toNat_natCast] at this, fun x hx => ?_, fun x y hx hy _ => ?_, fun a b hab => ?_⟩
  · rw [nbs_alive]
    simp [hx]
  · rw [nbs_keys hx, mem_nbS, hM]
    simp
  · rw [hM] at hab ⊢
    exact Adj.symm _ _ hab
theorem min_same (N : Int) (l : List S40) (hN : N ≤ 20000) : minS N l = rminS N l := by
  unfold minS rminS
  by_cases hc : chk N l = 0
  · obtain ⟨h0, _, _⟩ := chk_ok hc
    obtain ⟨n, rfl⟩ := Int.eq_ofNat_of_zero_le h0
    rw [if_pos hc, if_pos hc, Int.toNat_natCast]
    exact Lk.min (by omega) n (lk_start hc)
  · rw [if_neg hc, if_neg hc]
theorem fill_same (N : Int) (l : List S40) (L : List Int) (hN : N ≤ 20000) : fillS N l L = rfillS N l L := by
  unfold fillS rfillS
  by_cases hc : chk N l = 0 ∧ ordGo N L.length [] L = 0
  · obtain ⟨h0, _, _⟩ := chk_ok hc.1
    obtain ⟨n, rfl⟩ := Int.eq_ofNat_of_zero_le h0
    rw [if_pos hc, if_pos hc, Int.toNat_natCast]
    exact Lk.fill (by omega) L [] 0 L.length (lk_start hc.1) (fun _ _ _ => rfl) hc.2
  · rw [if_neg hc, if_neg hc]
end Go.Proofs.Ytnnknbghfbjcnaa.Print
