/- The order of least degrees on undirected graphs of lists of keys, in plain words. -/
import Derived.Test.YtnnknbghfbjcnaaHOPure
import Derived.Test.YtnnknbghfbjcnaaHOOf
import Derived.Test.YtnnknbghfbjcnaaHPAdj
namespace Go.Proofs.Ytnnknbghfbjcnaa.Print
open Go.RowKit Go.Proofs.YtnnknbghfbjcnaaW.PrintWords Go.Proofs.YtnnknbghfbjcnaaW.PrintLast Go.Proofs.YtnnknbghfbjcnaaW.PrintMore
set_option linter.unusedVariables false
set_option linter.unusedSimpArgs false

/-- The first place of those below n that are alive at which the degree is least. -/
def bestF (al : Nat → Bool) (dg : Nat → Nat) : Nat → Option Nat
  | 0 => none
  | v + 1 => match bestF al dg v with
    | none => if al v = true then some v else none
    | some b => if al v = true ∧ dg v < dg b then some v else some b
theorem bestF_some {al : Nat → Bool} {dg : Nat → Nat} : ∀ {n b : Nat}, bestF al dg n = some b → b < n ∧ al b = true ∧ ∀ x, x < n → al x = true → dg b ≤ dg x
  | v + 1, b, h => by
    unfold bestF at h
    cases hb : bestF al dg v with
    | none =>
      rw [hb] at h
      simp only at h
      split at h
      · rename_i ha
        obtain rfl := Option.some.inj h
        refine ⟨by omega, ha, fun x hx hax => ?_⟩
        by_cases e : x = v
        · rw [e]
          exact Nat.le_refl _
        · have := bestF_none hb x (by omega)
          rw [this] at hax
          cases hax
      · cases h
    | some b' =>
      rw [hb] at h
      simp only at h
      obtain ⟨h1, h2, h3⟩ := bestF_some hb
      split at h
      · rename_i ha
        obtain rfl := Option.some.inj h
        refine ⟨by omega, ha.1, fun x hx hax => ?_⟩
        by_cases e : x = v
        · rw [e]
          exact Nat.le_refl _
        · have := h3 x (by omega) hax
          omega
      · rename_i ha
        obtain rfl := Option.some.inj h
        refine ⟨by omega, h2, fun x hx hax => ?_⟩
        by_cases e : x = v
        · subst e
          have : ¬ dg x < dg b' := fun h => ha ⟨hax, h⟩
          omega
        · exact h3 x (by omega) hax
where
  bestF_none {al : Nat → Bool} {dg : Nat → Nat} : ∀ {n : Nat}, bestF al dg n = none → ∀ x, x < n → al x = false
    | v + 1, h, x, hx => by
      unfold bestF at h
      cases hb : bestF al dg v with
      | none =>
        rw [hb] at h
        simp only at h
        split at h
        · cases h
        · rename_i ha
          by_cases e : x = v
          · rw [e]
            simpa using ha
          · exact bestF_none hb x (by omega)
      | some b' =>
        rw [hb] at h
        simp only at h
        split at h <;> cases h
theorem bestF_congr {al al' : Nat → Bool} {dg dg' : Nat → Nat} : ∀ n, (∀ x, x < n → al x = al' x) → (∀ x, x < n → al x = true → dg x = dg' x) → bestF al dg n = bestF al' dg' n
  | 0, _, _ => rfl
  | v + 1, h1, h2 => by
    have ih := bestF_congr v (fun x hx => h1 x (by omega)) (fun x hx => h2 x (by omega))
    unfold bestF
    rw [← ih, ← h1 v (by omega)]
    cases hb : bestF al dg v with
    | none => rfl
    | some b =>
      obtain ⟨hb1, hb2, _⟩ := bestF_some hb
      simp only
      by_cases ha : al v = true
      · rw [h2 v (by omega) ha, h2 b (by omega) hb2]
      · simp [ha]
def alOf (G : Nbs) (v : Nat) : Bool := (G.getD v none).isSome
def dgOf (G : Nbs) (v : Nat) : Nat := (kOf G v).length
def bestOf (G : Nbs) (n : Nat) : Option Nat := bestF (alOf G) (dgOf G) n
def minGo : Nat → Nbs → List Int
  | 0, _ => []
  | d + 1, G => match bestOf G G.length with
    | none => []
    | some b => (b : Int) :: minGo d (elim G b).1
def fillGo : List Int → Nbs → Int → Int
  | [], _, f => f
  | v :: r, G, f => fillGo r (elim G v).1 (wrap64 (f + (elim G v).2))
def encB : Option Nat → Int
  | none => -1
  | some b => (b : Int)
theorem alive_al {G : Nbs} {v : Nat} : Alive G v ↔ v < G.length ∧ alOf G v = true := by
  unfold Alive alOf
  rw [Int.toNat_natCast, List.getD_eq_getElem?_getD]
  constructor
  · rintro ⟨_, h1, ks, h2⟩
    rw [h2]
    exact ⟨h1, rfl⟩
  · rintro ⟨h1, h2⟩
    rw [List.getElem?_eq_getElem h1] at h2 ⊢
    simp only [Option.getD_some] at h2
    obtain ⟨ks, hk⟩ := Option.isSome_iff_exists.1 h2
    exact ⟨by omega, h1, ks, by rw [hk]⟩
theorem best_alive {G : Nbs} {n b : Nat} (h : bestOf G n = some b) (hn : n ≤ G.length) : b < n ∧ Alive G b := by
  obtain ⟨h1, h2, _⟩ := bestF_some h
  exact ⟨h1, alive_al.2 ⟨by omega, h2⟩⟩
/-- More places than a list has entries: one of them is not in it. -/
theorem pigeon : ∀ (n : Nat) (O : List Int), O.length < n → ∃ x : Nat, x < n ∧ ¬ (x : Int) ∈ O
  | 0, O, h => by omega
  | n + 1, O, h => by
    by_cases hn : (n : Int) ∈ O
    · obtain ⟨x, hx, hxo⟩ := pigeon n (O.filter fun y => decide (y ≠ (n : Int))) (by
        have h1 : (O.filter fun y => decide (y ≠ (n : Int))).length < O.length := by
          rw [← List.countP_eq_length_filter]
          have h2 := List.length_eq_countP_add_countP (l := O) (fun y => decide (y ≠ (n : Int)))
          have h3 : 0 < O.countP (fun y => decide ¬ (decide (y ≠ (n : Int)) = true)) := List.countP_pos_iff.2 ⟨(n : Int), hn, by simp⟩
          omega
        omega)
      refine ⟨x, by omega, fun hm => hxo (List.mem_filter.2 ⟨hm, ?_⟩)⟩
      simp
      omega
    · exact ⟨n, by omega, hn⟩
/-- The vertices that are not out yet are there. -/
def Outs (G : Nbs) (O : List Int) : Prop := O.Nodup ∧ ∀ x : Int, Alive G x ↔ 0 ≤ x ∧ x.toNat < G.length ∧ ¬ x ∈ O
theorem Outs.best {G : Nbs} {O : List Int} (h : Outs G O) (hl : O.length < G.length) : ∃ b : Nat, bestOf G G.length = some b ∧ Alive G b := by
  obtain ⟨x, hx, hxo⟩ := pigeon G.length O hl
  have ha : Alive G x := (h.2 x).2 ⟨by omega, by simpa using hx, hxo⟩
  cases hb : bestOf G G.length with
  | none =>
    have := bestF_some.bestF_none hb x hx
    rw [(alive_al.1 ha).2] at this
    cases this
  | some b => exact ⟨b, rfl, (best_alive hb (Nat.le_refl _)).2⟩
theorem Outs.elim {G : Nbs} {O : List Int} (h : Outs G O) (hg : Good G) {v : Int} (hv : Alive G v) (hb : G.length ≤ 20000) : Outs (elim G v).1 (O ++ [v]) := by
  obtain ⟨h1, h2, _⟩ := elim_spec hg hv hb
  have hvo : ¬ v ∈ O := ((h.2 v).1 hv).2.2
  refine ⟨?_, fun x => ?_⟩
  · rw [List.nodup_append]
    exact ⟨h.1, by simp, fun a ha b hb2 => by simp at hb2; subst hb2; rintro rfl; exact hvo ha⟩
  · rw [h1 x, h2, h.2 x, List.mem_append, List.mem_singleton]
    constructor
    · rintro ⟨⟨a, b, c⟩, d⟩
      exact ⟨a, b, fun e => e.elim c d⟩
    · rintro ⟨a, b, c⟩
      exact ⟨⟨a, b, fun e => c (.inl e)⟩, fun e => c (.inr e)⟩
theorem kput_end {ks : List Int} {k : Int} (h : ¬ k ∈ ks) : kput ks k = ks ++ [k] := if_neg h
theorem keysOf_nodup {l : List Int} (h : l.Nodup) : keysOf l = l := by
  have : ∀ (l ks : List Int), (ks ++ l).Nodup → l.foldl kput ks = ks ++ l := by
    intro l
    induction l with
    | nil => intro ks _; simp
    | cons x r ih =>
      intro ks hn
      have hx : ¬ x ∈ ks := fun hm => by
        rw [List.nodup_append] at hn
        exact hn.2.2 x hm x (by simp) rfl
      rw [List.foldl_cons, kput_end hx, ih _ (by simpa using hn)]
      simp
  unfold keysOf
  simpa using this l [] (by simpa using h)
theorem nbs_alive {n : Nat} {l : List S40} {x : Int} : Alive (nbsOf (nbRows n l)) x ↔ 0 ≤ x ∧ x.toNat < n := by
  unfold Alive nbsOf
  rw [List.length_map, nbRows_length]
  constructor
  · rintro ⟨h1, h2, _⟩
    exact ⟨h1, h2⟩
  · rintro ⟨h1, h2⟩
    exact ⟨h1, h2, _, by rw [List.getElem?_map, List.getElem?_eq_getElem (by rw [nbRows_length]; exact h2)]; rfl⟩
theorem nbs_keys {n : Nat} {l : List S40} {v : Nat} (hv : v < n) : kOf (nbsOf (nbRows n l)) v = nbS l v := by
  unfold kOf nbsOf
  rw [Int.toNat_natCast, List.getD_eq_getElem?_getD, List.getElem?_map, List.getElem?_eq_getElem (by rw [nbRows_length]; exact hv), nbRows_get]
  simp only [Option.map_some, Option.getD_some]
  exact keysOf_nodup (inc_nodup (inc_setOf _))
theorem nbs_good {N : Int} {l : List S40} (hc : chk N l = 0) : Good (nbsOf (nbRows N.toNat l)) := by
  refine ⟨fun x hx => ?_, fun x hx => ?_, fun x hx y hy => ?_, fun x hx y hy => ?_⟩
  all_goals
    obtain ⟨h1, h2⟩ := nbs_alive.1 hx
    obtain ⟨n, rfl⟩ := Int.eq_ofNat_of_zero_le h1
    rw [Int.toNat_natCast] at h2
  · rw [nbs_keys h2]
    exact inc_nodup (inc_setOf _)
  · rw [nbs_keys h2, mem_nbS]
    exact fun h => h.1 rfl
  · rw [nbs_keys h2] at hy
    obtain ⟨m, rfl, hm⟩ := nbS_nat hc hy
    exact nbs_alive.2 ⟨by omega, by simpa using hm⟩
  · rw [nbs_keys h2] at hy
    obtain ⟨m, rfl, hm⟩ := nbS_nat hc hy
    rw [mem_nbS] at hy
    rw [nbs_keys hm, mem_nbS]
    exact Adj.symm _ _ hy
theorem nbs_length (n : Nat) (l : List S40) : (nbsOf (nbRows n l)).length = n := by simp [nbsOf, nbRows_length]
theorem nbs_outs (n : Nat) (l : List S40) : Outs (nbsOf (nbRows n l)) [] := ⟨List.nodup_nil, fun x => by rw [nbs_alive, nbs_length]; simp⟩
end Go.Proofs.Ytnnknbghfbjcnaa.Print
