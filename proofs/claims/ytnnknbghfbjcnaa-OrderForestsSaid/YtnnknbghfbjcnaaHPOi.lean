/- In a forest every vertex of least degree has at most one neighbour, so that no elimination connects a pair. -/
import Derived.Test.YtnnknbghfbjcnaaHPOlink
import Derived.Test.YtnnknbghfbjcnaaHPConn
namespace Go.Proofs.Ytnnknbghfbjcnaa.Print
open Go.RowKit Go.Proofs.YtnnknbghfbjcnaaW.PrintWords Go.Proofs.YtnnknbghfbjcnaaW.PrintLast Go.Proofs.YtnnknbghfbjcnaaW.PrintMore
set_option linter.unusedVariables false
set_option linter.unusedSimpArgs false

/-! ### 1. Sums -/
def sm (h : Nat → Nat) : Nat → Nat
  | 0 => 0
  | n + 1 => sm h n + h n
theorem sm_add (h h' : Nat → Nat) : ∀ n, sm (fun x => h x + h' x) n = sm h n + sm h' n
  | 0 => rfl
  | n + 1 => by
    unfold sm
    rw [sm_add h h' n]
    omega
theorem sm_congr {h h' : Nat → Nat} : ∀ n, (∀ x, x < n → h x = h' x) → sm h n = sm h' n
  | 0, _ => rfl
  | n + 1, k => by
    unfold sm
    rw [sm_congr n (fun x hx => k x (by omega)), k n (by omega)]
theorem sm_le {h h' : Nat → Nat} : ∀ n, (∀ x, x < n → h x ≤ h' x) → sm h n ≤ sm h' n
  | 0, _ => Nat.le_refl _
  | n + 1, k => by
    have h1 := sm_le n (fun x hx => k x (by omega))
    have h2 := k n (by omega)
    unfold sm
    omega
theorem cf_sm (p : Nat → Bool) : ∀ n, cf p n 0 = sm (fun x => if p x = true then 1 else 0) n
  | 0 => rfl
  | n + 1 => by
    rw [cf_last, cf_sm p n, Nat.zero_add]
    rfl
theorem sm_at (v b : Nat) : ∀ n, sm (fun x => if x = b then v else 0) n = if b < n then v else 0
  | 0 => by simp [sm]
  | n + 1 => by
    unfold sm
    rw [sm_at v b n]
    by_cases h1 : b < n
    · have : n ≠ b := by omega
      simp [h1, this, show b < n + 1 by omega]
    · by_cases h2 : n = b
      · subst h2
        simp
      · simp [h1, h2, show ¬ b < n + 1 by omega]
theorem cf_not (p : Nat → Bool) : ∀ n, cf p n 0 + cf (fun x => !p x) n 0 = n
  | 0 => rfl
  | n + 1 => by
    have := cf_not p n
    rw [cf_last, cf_last, Nat.zero_add]
    cases p n <;> simp <;> omega
/-- Different places below n that have p are at most as many as p counts. -/
theorem nodup_cf (p : Nat → Bool) : ∀ (n : Nat) (l : List Nat), l.Nodup → (∀ x ∈ l, x < n ∧ p x = true) → l.length ≤ cf p n 0
  | 0, l, _, h => by
    cases l with
    | nil => simp
    | cons a r => exact absurd (h a (by simp)).1 (by omega)
  | n + 1, l, hl, h => by
    have h1 := nodup_cf p n (l.erase n) (hl.erase n) (fun x hx => by
      have hx' := (List.Nodup.mem_erase_iff hl).1 hx
      have h2 := h x hx'.2
      exact ⟨by have := hx'.1; omega, h2.2⟩)
    rw [cf_last, Nat.zero_add]
    rw [List.length_erase] at h1
    by_cases hm : n ∈ l
    · rw [if_pos (h n hm).2]
      simp [hm] at h1
      omega
    · simp [hm] at h1
      omega

/-! ### 2. The sum of the degrees -/
theorem kOf_dead {G : Nbs} {x : Nat} (h : ¬ Alive G x) : kOf G x = [] := by
  unfold kOf
  rw [Int.toNat_natCast, List.getD_eq_getElem?_getD]
  by_cases hx : x < G.length
  · rw [List.getElem?_eq_getElem hx]
    cases hg : G[x] with
    | none => rfl
    | some ks => exact absurd ⟨by omega, by simpa using hx, ks, by simp [List.getElem?_eq_getElem hx, hg]⟩ h
  · rw [List.getElem?_eq_none (by omega)]
    rfl
theorem Good.nat {G : Nbs} (hg : Good G) {x : Nat} (hx : Alive G x) {y : Int} (hy : y ∈ kOf G x) : ∃ m : Nat, y = (m : Int) ∧ m < G.length ∧ Alive G m := by
  have ha := hg.ali x hx y hy
  obtain ⟨m, rfl⟩ := Int.eq_ofNat_of_zero_le ha.1
  exact ⟨m, rfl, by have := ha.2.1; simpa using this, ha⟩
theorem Good.deg {G : Nbs} (hg : Good G) (x : Nat) : dgOf G x = cf (fun y => decide ((y : Int) ∈ kOf G x)) G.length 0 := by
  unfold dgOf
  by_cases hx : Alive G x
  · exact (count_keys G.length (kOf G x) (hg.nd x hx) (fun y hy => by obtain ⟨m, rfl, hm, _⟩ := hg.nat hx hy; omega)).symm
  · rw [kOf_dead hx]
    exact (count_keys G.length [] List.nodup_nil (by simp)).symm
/-- The elimination of a vertex without two neighbours takes its edges away, and no more. -/
theorem leaf_mem {G : Nbs} (hg : Good G) {b : Nat} (hb : Alive G b) (hn : G.length ≤ 20000) (hd : dgOf G b ≤ 1) (x y : Nat) : (y : Int) ∈ kOf (elim G b).1 x ↔ x ≠ b ∧ y ≠ b ∧ (y : Int) ∈ kOf G x := by
  obtain ⟨e1, e2, e3, e4, _⟩ := elim_spec hg hb hn
  by_cases hx : Alive G x
  · by_cases hxb : x = b
    · subst hxb
      rw [kOf_dead (fun h => ((e1 x).1 h).2 rfl)]
      simp
    · rw [e4 x y hx (by omega)]
      have hone : ∀ u w : Int, u ∈ kOf G b → w ∈ kOf G b → u = w := fun u w hu hw => by
        unfold dgOf at hd
        match hk : kOf G b with
        | [] => rw [hk] at hu; cases hu
        | [z] =>
          rw [hk] at hu hw
          simp at hu hw
          rw [hu, hw]
        | z :: z' :: r =>
          rw [hk] at hd
          simp at hd
      constructor
      · rintro ⟨h1, h2 | ⟨h2, h3, h4⟩⟩
        · exact ⟨hxb, by omega, h2⟩
        · exact absurd (hone _ _ h3 h4) h2
      · rintro ⟨_, h1, h2⟩
        exact ⟨by omega, .inl h2⟩
  · rw [kOf_dead hx, kOf_dead (fun h => hx ((e1 x).1 h).1)]
    simp
theorem leaf_new {G : Nbs} {b : Nat} (hd : dgOf G b ≤ 1) : newOf G [] (setOf (kOf G b)) = 0 := by
  have h1 := length_setOf (kOf G b)
  unfold dgOf at hd
  match hs : setOf (kOf G b) with
  | [] => rfl
  | [z] => rfl
  | z :: z' :: r =>
    rw [hs] at h1
    simp at h1
    omega
theorem leaf_sum {G : Nbs} (hg : Good G) {b : Nat} (hb : Alive G b) (hn : G.length ≤ 20000) (hd : dgOf G b ≤ 1) : sm (dgOf (elim G b).1) G.length + 2 * dgOf G b = sm (dgOf G) G.length := by
  obtain ⟨e1, e2, e3, _⟩ := elim_spec hg hb hn
  have hbl : b < G.length := by have := hb.2.1; simpa using this
  have hrow : ∀ x, x < G.length → dgOf G x = dgOf (elim G b).1 x + ((if x = b then dgOf G b else 0) + (if decide ((x : Int) ∈ kOf G b) = true then 1 else 0)) := by
    intro x hx
    by_cases hxb : x = b
    · subst hxb
      have h0 : dgOf (elim G x).1 x = 0 := by
        unfold dgOf
        rw [kOf_dead (fun h => ((e1 x).1 h).2 rfl)]
        rfl
      have hirr := hg.irr x hb
      rw [h0, if_pos rfl]
      simp [hirr]
    · rw [hg.deg x, e3.deg x, e2, if_neg hxb, Nat.zero_add]
      have hc : ∀ d s, s + d = G.length → cf (fun y => decide ((y : Int) ∈ kOf G x)) d s = cf (fun y => decide ((y : Int) ∈ kOf (elim G b).1 x)) d s + (if s ≤ b ∧ (b : Int) ∈ kOf G x then 1 else 0) := by
        intro d
        induction d with
        | zero =>
          intro s hs
          have : ¬ s ≤ b := by omega
          simp [cf, this]
        | succ d ih =>
          intro s hs
          unfold cf
          rw [ih (s + 1) (by omega)]
          simp only [leaf_mem hg hb hn hd, decide_eq_true_eq]
          by_cases hsb : s = b
          · subst hsb
            have h9 : ¬ s + 1 ≤ s := by omega
            by_cases hm : (s : Int) ∈ kOf G x <;> simp [hm, hxb, h9] <;> omega
          · have h3 : (s + 1 ≤ b) ↔ s ≤ b := by omega
            simp only [h3, hxb, hsb, ne_eq, not_false_eq_true, true_and]
            omega
      rw [hc G.length 0 (by omega)]
      congr 1
      have hiff : (0 ≤ b ∧ (b : Int) ∈ kOf G x) ↔ (x : Int) ∈ kOf G b := by
        constructor
        · rintro ⟨_, h⟩
          by_cases hx2 : Alive G x
          · exact hg.sym x hx2 b h
          · rw [kOf_dead hx2] at h
            cases h
        · intro h
          exact ⟨Nat.zero_le _, hg.sym b hb x h⟩
      simp only [hiff, decide_eq_true_eq]
  rw [sm_congr G.length hrow, sm_add, sm_add, sm_at, if_pos hbl, ← cf_sm, ← hg.deg b]
  omega

/-! ### 3. Forests -/
def Rk (G : Nbs) (x y : Nat) : Prop := Alive G x ∧ (y : Int) ∈ kOf G x
theorem Rk.symm {G : Nbs} (hg : Good G) {x y : Nat} (h : Rk G x y) : Rk G y x := ⟨hg.ali x h.1 y h.2, hg.sym x h.1 y h.2⟩
/-- The vertices that are there lie together where they lay together at first. -/
theorem leaf_conn {G : Nbs} (hg : Good G) {b : Nat} (hb : Alive G b) (hn : G.length ≤ 20000) (hd : dgOf G b ≤ 1) {x y : Nat} (hxb : x ≠ b) (h : Conn (Rk G) x y) :
    (y ≠ b ∧ Conn (Rk (elim G b).1) x y) ∨ (y = b ∧ ∃ u : Nat, (u : Int) ∈ kOf G b ∧ Conn (Rk (elim G b).1) x u) := by
  obtain ⟨e1, _⟩ := elim_spec hg hb hn
  have hone : ∀ u w : Int, u ∈ kOf G b → w ∈ kOf G b → u = w := fun u w hu hw => by
    unfold dgOf at hd
    match hk : kOf G b with
    | [] => rw [hk] at hu; cases hu
    | [z] =>
      rw [hk] at hu hw
      simp at hu hw
      rw [hu, hw]
    | z :: z' :: r =>
      rw [hk] at hd
      simp at hd
  induction h with
  | refl => exact .inl ⟨hxb, Conn.refl _⟩
  | @tail m w hc hr ih =>
    rcases ih with ⟨hm, ih⟩ | ⟨rfl, u, hu, ih⟩
    · by_cases hw : w = b
      · subst hw
        exact .inr ⟨rfl, m, (hg.sym m hr.1 w hr.2), ih⟩
      · exact .inl ⟨hw, ih.tail ⟨(e1 m).2 ⟨hr.1, by omega⟩, (leaf_mem hg hb hn hd m w).2 ⟨hm, hw, hr.2⟩⟩⟩
    · have hwu : (w : Int) = (u : Int) := hone _ _ hr.2 hu
      have hwu2 : w = u := by omega
      subst hwu2
      exact .inl ⟨fun e => hg.irr m hr.1 (by have := hr.2; rwa [e] at this), ih⟩
theorem alive_count {G : Nbs} {O : List Int} (ho : Outs G O) : cf (alOf G) G.length 0 + O.length = G.length ∨ ∃ x ∈ O, ¬ (0 ≤ x ∧ x < (G.length : Int)) := by
  by_cases hall : ∀ x ∈ O, 0 ≤ x ∧ x < (G.length : Int)
  · left
    have h1 := cf_not (alOf G) G.length
    rw [← count_keys G.length O ho.1 hall]
    have h2 : cf (fun x => !alOf G x) G.length 0 = cf (fun u => decide ((u : Int) ∈ O)) G.length 0 := cf_congr _ _ fun y _ hy => bool_iff (by
      have h3 := ho.2 y
      rw [alive_al] at h3
      simp only [Int.toNat_natCast] at h3
      constructor
      · intro h4
        simp only [Bool.not_eq_true'] at h4
        apply Classical.byContradiction
        intro h5
        have := h3.2 ⟨by omega, by omega, by simpa using h5⟩
        rw [h4] at this
        cases this.2
      · intro h4
        simp only [decide_eq_true_eq] at h4
        cases ha : alOf G y with
        | false => rfl
        | true => exact absurd h4 (h3.1 ⟨by omega, ha⟩).2.2)
    omega
  · right
    apply Classical.byContradiction
    intro h
    exact hall fun x hx => Classical.byContradiction fun h2 => h ⟨x, hx, h2⟩
theorem forest_go {n : Nat} (hn : n ≤ 20000) (rp : Nat → Nat) (hrl : ∀ v, v < n → rp v < n) (hrr : ∀ v, rp (rp v) = rp v) (E : Nat) (hE : E + 2 * cf (fun v => decide (rp v = v)) n 0 < 2 * n + 2) :
    ∀ (d : Nat) (G : Nbs) (O : List Int) (I : List Nat), O.length + d = n → G.length = n → Good G → Outs G O → (∀ x ∈ O, 0 ≤ x ∧ x < (n : Int)) → (I.map rp).Nodup → (∀ i ∈ I, i < n) → (∀ i ∈ I, ∀ y : Nat, Alive G y → rp y ≠ rp i) →
      (∀ x y : Nat, Alive G x → Alive G y → rp x = rp y → Conn (Rk G) x y) → sm (dgOf G) n + 2 * O.length ≤ E + 2 * I.length → fillGo (minGo d G) G 0 = 0
  | 0, _, _, _, _, _, _, _, _, _, _, _, _, _ => rfl
  | d + 1, G, O, I, hod, hlen, hg, ho, hor, hI1, hI2, hI3, hconn, hsum => by
    obtain ⟨b, hbest, hab⟩ := ho.best (by rw [hlen]; omega)
    have hbn : b < n := by have := hab.2.1; rw [hlen] at this; simpa using this
    rw [hlen] at hbest
    obtain ⟨e1, e2, e3, _, e5⟩ := elim_spec hg hab (by rw [hlen]; exact hn)
    have hmin : ∀ x, x < n → alOf G x = true → dgOf G b ≤ dgOf G x := (bestF_some hbest).2.2
    -- the least degree is at most 1
    have hd : dgOf G b ≤ 1 := by
      apply Classical.byContradiction
      intro hd
      have h1 : 2 * cf (alOf G) n 0 ≤ sm (dgOf G) n := by
        rw [cf_sm]
        have h2 : sm (fun x => 2 * (if alOf G x = true then 1 else 0)) n ≤ sm (dgOf G) n := sm_le n fun x hx => by
          by_cases ha : alOf G x = true
          · have := hmin x hx ha
            simp [ha]
            omega
          · simp [ha]
        have h3 : ∀ m, sm (fun x => 2 * (if alOf G x = true then 1 else 0)) m = 2 * sm (fun x => if alOf G x = true then 1 else 0) m := by
          intro m
          induction m with
          | zero => rfl
          | succ m ih =>
            unfold sm
            rw [ih]
            omega
        rw [h3] at h2
        exact h2
      have h2 : cf (alOf G) n 0 + O.length = n := by
        rcases alive_count ho with h | ⟨x, hx, hx2⟩
        · rw [hlen] at h
          exact h
        · rw [hlen] at hx2
          exact absurd (hor x hx) hx2
      have h3 : (I ++ [b]).length ≤ cf (fun v => decide (rp v = v)) n 0 := by
        have h4 := nodup_cf (fun v => decide (rp v = v)) n ((I ++ [b]).map rp) (by
          rw [List.map_append, List.nodup_append]
          refine ⟨hI1, by simp, fun a ha c hc => ?_⟩
          simp at hc
          subst hc
          obtain ⟨i, hi, rfl⟩ := List.mem_map.1 ha
          exact fun e => hI3 i hi b hab e.symm) (fun x hx => by
          obtain ⟨i, hi, rfl⟩ := List.mem_map.1 hx
          refine ⟨hrl i ?_, by simp [hrr]⟩
          rcases List.mem_append.1 hi with hi | hi
          · exact hI2 i hi
          · simp at hi
            omega)
        simpa using h4
      rw [List.length_append] at h3
      simp at h3
      omega
    have hsum2 := leaf_sum hg hab (by rw [hlen]; exact hn) hd
    rw [hlen] at hsum2
    have hfill : (elim G b).2 = 0 := by
      rw [e5, leaf_new hd]
      rfl
    unfold minGo
    rw [hlen, hbest]
    show fillGo (minGo d (elim G b).1) (elim G b).1 (wrap64 (0 + (elim G b).2)) = 0
    rw [hfill, show wrap64 ((0 : Int) + 0) = 0 by unfold wrap64; omega]
    have hor2 : ∀ x ∈ O ++ [(b : Int)], 0 ≤ x ∧ x < (n : Int) := fun x hx => by
      rcases List.mem_append.1 hx with hx | hx
      · exact hor x hx
      · simp at hx
        omega
    have hconn2 : ∀ x y : Nat, Alive (elim G b).1 x → Alive (elim G b).1 y → rp x = rp y → Conn (Rk (elim G b).1) x y := fun x y hx hy hr => by
      obtain ⟨hx1, hx2⟩ := (e1 x).1 hx
      obtain ⟨hy1, hy2⟩ := (e1 y).1 hy
      rcases leaf_conn hg hab (by rw [hlen]; exact hn) hd (by omega) (hconn x y hx1 hy1 hr) with ⟨_, h⟩ | ⟨h, _⟩
      · exact h
      · exact absurd h (by omega)
    have hlo : (O ++ [(b : Int)]).length = O.length + 1 := by simp
    by_cases hd0 : dgOf G b = 0
    · -- a vertex alone
      have hk0 : kOf G b = [] := List.eq_nil_of_length_eq_zero hd0
      have halone : ∀ y : Nat, Alive G y → y ≠ b → rp y ≠ rp b := fun y hy hyb hr => by
        rcases leaf_conn hg hab (by rw [hlen]; exact hn) hd hyb (hconn y b hy hab hr) with ⟨h, _⟩ | ⟨_, u, hu, _⟩
        · exact h rfl
        · rw [hk0] at hu
          cases hu
      refine forest_go hn rp hrl hrr E hE d (elim G b).1 (O ++ [(b : Int)]) (I ++ [b]) (by omega) (by rw [e2, hlen]) e3 (ho.elim hg hab (by rw [hlen]; exact hn)) hor2 ?_ ?_ ?_ hconn2 ?_
      · rw [List.map_append, List.nodup_append]
        refine ⟨hI1, by simp, fun a ha c hc => ?_⟩
        simp at hc
        subst hc
        obtain ⟨i, hi, rfl⟩ := List.mem_map.1 ha
        exact fun e => hI3 i hi b hab e.symm
      · intro i hi
        rcases List.mem_append.1 hi with hi | hi
        · exact hI2 i hi
        · simp at hi
          omega
      · intro i hi y hy
        obtain ⟨hy1, hy2⟩ := (e1 y).1 hy
        rcases List.mem_append.1 hi with hi | hi
        · exact hI3 i hi y hy1
        · simp at hi
          subst hi
          exact halone y hy1 (by omega)
      · rw [hlo, List.length_append]
        simp
        omega
    · refine forest_go hn rp hrl hrr E hE d (elim G b).1 (O ++ [(b : Int)]) I (by omega) (by rw [e2, hlen]) e3 (ho.elim hg hab (by rw [hlen]; exact hn)) hor2 hI1 hI2 (fun i hi y hy => hI3 i hi y ((e1 y).1 hy).1) hconn2 ?_
      rw [hlo]
      omega
theorem min_order {n : Nat} (hn : n ≤ 20000) : ∀ (d : Nat) (G : Nbs) (O : List Int), O.length + d = n → G.length = n → Good G → Outs G O → (∀ x ∈ O, 0 ≤ x ∧ x < (n : Int)) →
    (O ++ minGo d G).Nodup ∧ (O ++ minGo d G).length = n ∧ ∀ x ∈ O ++ minGo d G, 0 ≤ x ∧ x < (n : Int)
  | 0, G, O, hod, hlen, hg, ho, hor => by
    unfold minGo
    rw [List.append_nil]
    exact ⟨ho.1, by omega, hor⟩
  | d + 1, G, O, hod, hlen, hg, ho, hor => by
    obtain ⟨b, hbest, hab⟩ := ho.best (by rw [hlen]; omega)
    have hbn : b < n := by have := hab.2.1; rw [hlen] at this; simpa using this
    obtain ⟨e1, e2, e3, _⟩ := elim_spec hg hab (by rw [hlen]; exact hn)
    have ih := min_order hn d (elim G b).1 (O ++ [(b : Int)]) (by simp; omega) (by rw [e2, hlen]) e3 (ho.elim hg hab (by rw [hlen]; exact hn)) (fun x hx => by
      rcases List.mem_append.1 hx with hx | hx
      · exact hor x hx
      · simp at hx
        omega)
    have heq : O ++ minGo (d + 1) G = O ++ [(b : Int)] ++ minGo d (elim G b).1 := by
      rw [List.append_assoc]
      congr 1
      conv => lhs; unfold minGo
      rw [hbest]
      rfl
    rw [heq]
    exact ih
end Go.Proofs.Ytnnknbghfbjcnaa.Print
