/- What elimination makes of an undirected graph of lists of keys: who is whose neighbour afterwards, and how many pairs came new. -/
import Derived.Test.YtnnknbghfbjcnaaHOModel
namespace Go.Proofs.Ytnnknbghfbjcnaa.Print
open Go.RowKit Go.Proofs.YtnnknbghfbjcnaaW.PrintWords Go.Proofs.YtnnknbghfbjcnaaW.PrintLast Go.Proofs.YtnnknbghfbjcnaaW.PrintMore
set_option linter.unusedVariables false
set_option linter.unusedSimpArgs false

theorem wrap_nat {a : Nat} (h : a < 1000000000000000) : wrap64 ((a : Nat) : Int) = (a : Int) := by unfold wrap64; omega
theorem kLink_mem {G : Nbs} {u w : Int} (hu : Alive G u) (hw : Alive G w) (hne : u ≠ w) {x y : Int} (hx : 0 ≤ x) : y ∈ kOf (kLink G u w) x ↔ y ∈ kOf G x ∨ (x = u ∧ y = w) ∨ (x = w ∧ y = u) := by
  have hw1 := (kSet_alive hu (kput (kOf G u) w)).2 hw
  unfold kLink
  simp only
  rw [kOf_kSet hw1 _ hx]
  by_cases h1 : x = w
  · subst h1
    rw [if_pos rfl, mem_kput, kOf_kSet hu _ hx, if_neg (Ne.symm hne)]
    constructor
    · rintro (h | h)
      · exact .inl h
      · exact .inr (.inr ⟨rfl, h⟩)
    · rintro (h | ⟨h, _⟩ | ⟨_, h⟩)
      · exact .inl h
      · exact absurd h (Ne.symm hne)
      · exact .inr h
  · rw [if_neg h1, kOf_kSet hu _ hx]
    by_cases h2 : x = u
    · subst h2
      rw [if_pos rfl, mem_kput]
      constructor
      · rintro (h | h)
        · exact .inl h
        · exact .inr (.inl ⟨rfl, h⟩)
      · rintro (h | ⟨_, h⟩ | ⟨h, _⟩)
        · exact .inl h
        · exact .inr h
        · exact absurd h hne
    · rw [if_neg h2]
      constructor
      · exact .inl
      · rintro (h | ⟨h, _⟩ | ⟨h, _⟩)
        · exact h
        · exact absurd h h2
        · exact absurd h h1
def KNd (G : Nbs) : Prop := ∀ x, Alive G x → (kOf G x).Nodup
theorem KNd.kSet {G : Nbs} (h : KNd G) {u : Int} (hu : Alive G u) {ks : List Int} (hk : ks.Nodup) : KNd (kSet G u ks) := fun x hx => by
  rw [kOf_kSet hu ks hx.1]
  split
  · exact hk
  · exact h x ((kSet_alive hu ks).1 hx)
theorem KNd.link {G : Nbs} (h : KNd G) {u w : Int} (hu : Alive G u) (hw : Alive G w) : KNd (kLink G u w) := by
  have h1 := h.kSet hu (kput_nodup (h u hu) w)
  have hw1 := (kSet_alive hu (kput (kOf G u) w)).2 hw
  exact h1.kSet hw1 (kput_nodup (h1 w hw1) u)
/-- The inner loop: u is connected with all of D. -/
theorem elimIn_spec {u : Int} : ∀ (D : List Int) (G : Nbs) (f : Nat), Alive G u → (∀ w ∈ D, Alive G w ∧ w ≠ u) → (∀ w ∈ D, w ∈ kOf G u → u ∈ kOf G w) → D.Nodup → KNd G → f + D.length < 1000000000000000 →
    (∀ x, Alive (elimIn u D G f).1 x ↔ Alive G x) ∧ (elimIn u D G f).1.length = G.length ∧ KNd (elimIn u D G f).1 ∧
    (∀ x y, 0 ≤ x → (y ∈ kOf (elimIn u D G f).1 x ↔ y ∈ kOf G x ∨ (x = u ∧ y ∈ D) ∨ (x ∈ D ∧ y = u))) ∧
    (elimIn u D G f).2 = ((f + D.countP (fun w => !decide (w ∈ kOf G u)) : Nat) : Int)
  | [], G, f, _, _, _, _, hk, _ => by
    refine ⟨fun x => Iff.rfl, rfl, hk, fun x y _ => ?_, by simp [elimIn]⟩
    constructor
    · exact .inl
    · rintro (h | ⟨_, h⟩ | ⟨h, _⟩)
      · exact h
      · cases h
      · cases h
  | w :: r, G, f, hu, hD, hs, hnd, hk, hb => by
    obtain ⟨hw, hwu⟩ := hD w (by simp)
    rw [List.nodup_cons] at hnd
    rw [List.length_cons] at hb
    rw [elimIn_cons]
    by_cases hin : w ∈ kOf G u
    · rw [if_pos hin]
      obtain ⟨h1, h2, h3, h4, h5⟩ := elimIn_spec r G f hu (fun x hx => hD x (by simp [hx])) (fun x hx => hs x (by simp [hx])) hnd.2 hk (by omega)
      refine ⟨h1, h2, h3, fun x y hx => ?_, ?_⟩
      · rw [h4 x y hx]
        constructor
        · rintro (h | ⟨h, h'⟩ | ⟨h, h'⟩)
          · exact .inl h
          · exact .inr (.inl ⟨h, by simp [h']⟩)
          · exact .inr (.inr ⟨by simp [h], h'⟩)
        · rintro (h | ⟨rfl, h'⟩ | ⟨h, rfl⟩)
          · exact .inl h
          · rcases List.mem_cons.1 h' with rfl | h'
            · exact .inl hin
            · exact .inr (.inl ⟨rfl, h'⟩)
          · rcases List.mem_cons.1 h with rfl | h
            · exact .inl (hs _ (by simp) hin)
            · exact .inr (.inr ⟨h, rfl⟩)
      · rw [h5, List.countP_cons]
        simp [hin]
    · rw [if_neg hin]
      have hf : wrap64 ((f : Int) + 1) = ((f + 1 : Nat) : Int) := by unfold wrap64; omega
      rw [hf]
      have hl := fun x y (hx : 0 ≤ x) => kLink_mem hu hw (Ne.symm hwu) (x := x) (y := y) hx
      obtain ⟨h1, h2, h3, h4, h5⟩ := elimIn_spec r (kLink G u w) (f + 1) ((kLink_alive hu hw).2 hu) (fun x hx => ⟨(kLink_alive hu hw).2 (hD x (by simp [hx])).1, (hD x (by simp [hx])).2⟩)
        (fun x hx hxu => by
          rw [hl u x hu.1] at hxu
          rw [hl x u (hD x (by simp [hx])).1.1]
          rcases hxu with h | ⟨_, h⟩ | ⟨h, _⟩
          · exact .inl (hs x (by simp [hx]) h)
          · exact absurd (h ▸ hx) hnd.1
          · exact absurd h.symm hwu) hnd.2 (hk.link hu hw) (by omega)
      refine ⟨fun x => (h1 x).trans (kLink_alive hu hw), h2.trans (kLink_length ..), h3, fun x y hx => ?_, ?_⟩
      · rw [h4 x y hx, hl x y hx]
        constructor
        · rintro ((h | ⟨h, h'⟩ | ⟨h, h'⟩) | ⟨h, h'⟩ | ⟨h, h'⟩)
          · exact .inl h
          · exact .inr (.inl ⟨h, by simp [h']⟩)
          · exact .inr (.inr ⟨by simp [h], h'⟩)
          · exact .inr (.inl ⟨h, by simp [h']⟩)
          · exact .inr (.inr ⟨by simp [h], h'⟩)
        · rintro (h | ⟨rfl, h'⟩ | ⟨h, rfl⟩)
          · exact .inl (.inl h)
          · rcases List.mem_cons.1 h' with rfl | h'
            · exact .inl (.inr (.inl ⟨rfl, rfl⟩))
            · exact .inr (.inl ⟨rfl, h'⟩)
          · rcases List.mem_cons.1 h with rfl | h
            · exact .inl (.inr (.inr ⟨rfl, rfl⟩))
            · exact .inr (.inr ⟨h, rfl⟩)
      · rw [h5, List.countP_cons]
        have hc : r.countP (fun x => !decide (x ∈ kOf (kLink G u w) u)) = r.countP (fun x => !decide (x ∈ kOf G u)) := by
          apply List.countP_congr
          intro x hx
          have hxw : x ≠ w := fun e => hnd.1 (e ▸ hx)
          have : x ∈ kOf (kLink G u w) u ↔ x ∈ kOf G u := by
            rw [hl u x hu.1]
            constructor
            · rintro (h | ⟨_, h⟩ | ⟨h, _⟩)
              · exact h
              · exact absurd h hxw
              · exact absurd h.symm hwu
            · exact .inl
          simp [this]
        rw [hc]
        simp [hin]
        omega
/-- A graph of lists of keys is undirected, without loops, among the vertices that are there. -/
structure Good (G : Nbs) : Prop where
  nd : KNd G
  irr : ∀ x, Alive G x → ¬ x ∈ kOf G x
  ali : ∀ x, Alive G x → ∀ y ∈ kOf G x, Alive G y
  sym : ∀ x, Alive G x → ∀ y ∈ kOf G x, x ∈ kOf G y
/-- How many pairs of the list are not neighbours; done is what stands before it. -/
def newOf (G : Nbs) : List Int → List Int → Nat
  | _, [] => 0
  | D, u :: r => D.countP (fun w => !decide (w ∈ kOf G u)) + newOf G (D ++ [u]) r
theorem elimGo_spec {G : Nbs} {v : Int} (hg : Good G) (hv : Alive G v) : ∀ (r D : List Int) (Gd : Nbs) (f : Nat), (D ++ r).Nodup → (∀ x ∈ D ++ r, x ∈ kOf G v) → f + (D ++ r).length * (D ++ r).length < 1000000000 + D.length * (D ++ r).length → D.length + r.length < 30000000 →
    (∀ x, Alive Gd x ↔ Alive G x) → Gd.length = G.length → KNd Gd → (∀ x y, Alive G x → (y ∈ kOf Gd x ↔ (y ∈ kOf G x ∧ ¬ (x ∈ D ∧ y = v)) ∨ (x ≠ y ∧ x ∈ D ∧ y ∈ D))) →
    (∀ x, Alive (elimGo v D r Gd f).1 x ↔ Alive G x) ∧ (elimGo v D r Gd f).1.length = G.length ∧ KNd (elimGo v D r Gd f).1 ∧
    (∀ x y, Alive G x → (y ∈ kOf (elimGo v D r Gd f).1 x ↔ (y ∈ kOf G x ∧ ¬ (x ∈ D ++ r ∧ y = v)) ∨ (x ≠ y ∧ x ∈ D ++ r ∧ y ∈ D ++ r))) ∧
    (elimGo v D r Gd f).2 = ((f + newOf G D r : Nat) : Int)
  | [], D, Gd, f, hnd, hm, hf, hfb, h1, h2, h3, h4 => by
    rw [List.append_nil]
    exact ⟨h1, h2, h3, h4, by simp [elimGo, newOf]⟩
  | u :: r, D, Gd, f, hnd, hm, hf, hfb, h1, h2, h3, h4 => by
    rw [List.length_cons] at hfb
    have hassoc : D ++ u :: r = (D ++ [u]) ++ r := by simp
    have hu : Alive G u := hg.ali v hv u (hm u (by simp))
    have huv : u ≠ v := fun e => hg.irr v hv (by have := hm u (by simp); rwa [e] at this)
    have huD : ¬ u ∈ D := fun h => by
      rw [List.nodup_append] at hnd
      exact hnd.2.2 u h u (by simp) rfl
    have hDnd : D.Nodup := by rw [List.nodup_append] at hnd; exact hnd.1
    have hDa : ∀ w ∈ D, Alive G w ∧ w ≠ u := fun w hw => ⟨hg.ali v hv w (hm w (by simp [hw])), fun e => huD (e ▸ hw)⟩
    have hud := (h1 u).2 hu
    have hA1 := fun x => (kSet_alive hud ((kOf Gd u).erase v) (x := x)).trans (h1 x)
    have hK1 := h3.kSet hud ((h3 u hud).erase v)
    have hM1 : ∀ x y, Alive G x → (y ∈ kOf (kSet Gd u ((kOf Gd u).erase v)) x ↔ (y ∈ kOf G x ∧ ¬ (x ∈ D ++ [u] ∧ y = v)) ∨ (x ≠ y ∧ x ∈ D ∧ y ∈ D)) := by
      intro x y hx
      rw [kOf_kSet hud _ hx.1]
      by_cases e : x = u
      · subst e
        rw [if_pos rfl, List.Nodup.mem_erase_iff (h3 x hud), h4 x y hx]
        constructor
        · rintro ⟨hy, (⟨h, _⟩ | ⟨_, h, _⟩)⟩
          · exact .inl ⟨h, fun h' => hy h'.2⟩
          · exact absurd h huD
        · rintro (⟨h, h'⟩ | ⟨_, h, _⟩)
          · exact ⟨fun e => h' ⟨by simp, e⟩, .inl ⟨h, fun h'' => huD h''.1⟩⟩
          · exact absurd h huD
      · rw [if_neg e, h4 x y hx]
        constructor
        · rintro (⟨h, h'⟩ | h)
          · exact .inl ⟨h, fun h'' => h' ⟨by rcases List.mem_append.1 h''.1 with h3 | h3; exact h3; simp at h3; exact absurd h3 e, h''.2⟩⟩
          · exact .inr h
        · rintro (⟨h, h'⟩ | h)
          · exact .inl ⟨h, fun h'' => h' ⟨by simp [h''.1], h''.2⟩⟩
          · exact .inr h
    have hfl : f + D.length < 1000000000000000 := by
      have h5 : (D ++ u :: r).length = D.length + (r.length + 1) := by simp
      have h6 : D.length * (D ++ u :: r).length ≤ (D ++ u :: r).length * (D ++ u :: r).length := Nat.mul_le_mul_right _ (by omega)
      have h7 : D.length < 30000000 := by omega
      omega
    obtain ⟨g1, g2, g3, g4, g5⟩ := elimIn_spec D (kSet Gd u ((kOf Gd u).erase v)) f ((hA1 u).2 hu) (fun w hw => ⟨(hA1 w).2 (hDa w hw).1, (hDa w hw).2⟩)
      (fun w hw hwu => by
        rw [hM1 u w hu] at hwu
        rw [hM1 w u (hDa w hw).1]
        rcases hwu with ⟨h, _⟩ | ⟨_, h, _⟩
        · exact .inl ⟨hg.sym u hu w h, fun h' => huv h'.2⟩
        · exact absurd h huD) hDnd hK1 hfl
    have hlen : (kSet Gd u ((kOf Gd u).erase v)).length = G.length := (kSet_length ..).trans h2
    rw [elimGo_cons]
    have hcnt : D.countP (fun w => !decide (w ∈ kOf (kSet Gd u ((kOf Gd u).erase v)) u)) = D.countP (fun w => !decide (w ∈ kOf G u)) := by
      apply List.countP_congr
      intro w hw
      have : w ∈ kOf (kSet Gd u ((kOf Gd u).erase v)) u ↔ w ∈ kOf G u := by
        rw [hM1 u w hu]
        constructor
        · rintro (⟨h, _⟩ | ⟨_, h, _⟩)
          · exact h
          · exact absurd h huD
        · intro h
          refine .inl ⟨h, fun h' => ?_⟩
          exact hg.irr v hv (by have := hm w (by simp [hw]); rwa [h'.2] at this)
      simp [this]
    rw [g5, hcnt]
    have hcl : D.countP (fun w => !decide (w ∈ kOf G u)) ≤ D.length := List.countP_le_length
    rw [hassoc]
    have hrec := elimGo_spec hg hv r (D ++ [u]) (elimIn u D (kSet Gd u ((kOf Gd u).erase v)) f).1 (f + D.countP (fun w => !decide (w ∈ kOf G u))) (by rw [← hassoc]; exact hnd) (by rw [← hassoc]; exact hm)
      (by
        rw [← hassoc]
        have h5 : (D ++ u :: r).length = D.length + (r.length + 1) := by simp
        have h6 : (D ++ [u]).length * (D ++ u :: r).length = D.length * (D ++ u :: r).length + (D ++ u :: r).length := by
          rw [List.length_append, Nat.add_mul]
          simp
        rw [h6]
        omega)
      (by simp; omega) (fun x => (g1 x).trans (hA1 x)) (g2.trans hlen) g3
      (fun x y hx => by
        rw [g4 x y hx.1, hM1 x y hx]
        constructor
        · rintro ((h | ⟨ha, hb, hc⟩) | ⟨rfl, h⟩ | ⟨h, rfl⟩)
          · exact .inl h
          · exact .inr ⟨ha, by simp [hb], by simp [hc]⟩
          · exact .inr ⟨fun e => huD (e ▸ h), by simp, by simp [h]⟩
          · exact .inr ⟨fun e => huD (e ▸ h), by simp [h], by simp⟩
        · rintro (h | ⟨ha, hb, hc⟩)
          · exact .inl (.inl h)
          · rcases List.mem_append.1 hb with hb | hb
            · rcases List.mem_append.1 hc with hc | hc
              · exact .inl (.inr ⟨ha, hb, hc⟩)
              · simp at hc
                exact .inr (.inr ⟨hb, hc⟩)
            · simp at hb
              subst hb
              rcases List.mem_append.1 hc with hc | hc
              · exact .inr (.inl ⟨rfl, hc⟩)
              · simp at hc
                exact absurd hc.symm ha)
    obtain ⟨k1, k2, k3, k4, k5⟩ := hrec
    refine ⟨k1, k2, k3, k4, ?_⟩
    rw [k5]
    simp only [newOf]
    omega
theorem inc_nodup {l : List Int} (h : l.Pairwise (· < ·)) : l.Nodup := h.imp (fun hab => by omega)
/-- Elimination: what is left. -/
theorem elim_spec {G : Nbs} {v : Int} (hg : Good G) (hv : Alive G v) (hb : G.length ≤ 20000) :
    (∀ x, Alive (elim G v).1 x ↔ Alive G x ∧ x ≠ v) ∧ (elim G v).1.length = G.length ∧ Good (elim G v).1 ∧
    (∀ x y, Alive G x → x ≠ v → (y ∈ kOf (elim G v).1 x ↔ y ≠ v ∧ (y ∈ kOf G x ∨ (x ≠ y ∧ x ∈ kOf G v ∧ y ∈ kOf G v)))) ∧
    (elim G v).2 = ((newOf G [] (setOf (kOf G v)) : Nat) : Int) := by
  have hnd : (setOf (kOf G v)).Nodup := inc_nodup (inc_setOf _)
  have hlen : (setOf (kOf G v)).length ≤ 20000 := Nat.le_trans (keys_le hnd fun x hx => by
    have := hg.ali v hv x (mem_setOf.1 hx)
    exact ⟨this.1, this.2.1⟩) hb
  have hsq : (setOf (kOf G v)).length * (setOf (kOf G v)).length ≤ 20000 * 20000 := Nat.mul_le_mul hlen hlen
  obtain ⟨h1, h2, h3, h4, h5⟩ := elimGo_spec hg hv (setOf (kOf G v)) [] G 0 (by simpa using hnd) (fun x hx => mem_setOf.1 (by simpa using hx)) (by simp; omega) (by simp; omega) (fun x => Iff.rfl) rfl hg.nd (fun x y hx => by simp)
  rw [Nat.zero_add] at h5
  rw [List.nil_append] at h4
  simp only [mem_setOf] at h4
  have hset : ∀ x : Int, x.toNat ≠ v.toNat → ((elimGo v [] (setOf (kOf G v)) G ((0 : Nat) : Int)).1.set v.toNat none)[x.toNat]? = (elimGo v [] (setOf (kOf G v)) G ((0 : Nat) : Int)).1[x.toNat]? := fun x hx => by
    rw [List.getElem?_set, if_neg (fun e => hx e.symm)]
  have hA : ∀ x, Alive (elim G v).1 x ↔ Alive G x ∧ x ≠ v := by
    intro x
    unfold elim Alive
    simp only [List.length_set]
    constructor
    · rintro ⟨ha, hb, ks, hc⟩
      by_cases e : x.toNat = v.toNat
      · rw [e, List.getElem?_set, if_pos rfl] at hc
        split at hc <;> cases hc
      · have h6 : Alive (elimGo v [] (setOf (kOf G v)) G ((0 : Nat) : Int)).1 x := ⟨ha, hb, ks, by rw [← hset x e]; exact hc⟩
        exact ⟨(h1 x).1 h6, fun e2 => e (by rw [e2])⟩
    · rintro ⟨ha, hne⟩
      have h6 := (h1 x).2 ha
      have e : x.toNat ≠ v.toNat := by
        have := ha.1
        have := hv.1
        omega
      exact ⟨h6.1, h6.2.1, by obtain ⟨ks, hk⟩ := h6.2.2; exact ⟨ks, by rw [← hk]; exact hset x e⟩⟩
  have hK : ∀ x, Alive G x → x ≠ v → kOf (elim G v).1 x = kOf (elimGo v [] (setOf (kOf G v)) G ((0 : Nat) : Int)).1 x := by
    intro x hx hne
    have e : x.toNat ≠ v.toNat := by
      have := hx.1
      have := hv.1
      omega
    unfold elim kOf
    rw [List.getD_eq_getElem?_getD, List.getD_eq_getElem?_getD]
    have := hset x e
    unfold kOf at this
    exact congrArg (fun o : Option (Option (List Int)) => ((o.getD none).getD [])) this
  have hM : ∀ x y, Alive G x → x ≠ v → (y ∈ kOf (elim G v).1 x ↔ y ≠ v ∧ (y ∈ kOf G x ∨ (x ≠ y ∧ x ∈ kOf G v ∧ y ∈ kOf G v))) := by
    intro x y hx hne
    rw [hK x hx hne, h4 x y hx]
    constructor
    · rintro (⟨ha, hb⟩ | ⟨ha, hb, hc⟩)
      · by_cases e : y = v
        · subst e
          exact absurd ⟨hg.sym x hx y ha, rfl⟩ hb
        · exact ⟨e, .inl ha⟩
      · exact ⟨fun e => hg.irr v hv (e ▸ hc), .inr ⟨ha, hb, hc⟩⟩
    · rintro ⟨ha, hb | hb⟩
      · exact .inl ⟨hb, fun h => ha h.2⟩
      · exact .inr hb
  refine ⟨hA, by unfold elim; rw [List.length_set]; exact h2, ⟨fun x hx => ?_, fun x hx h => ?_, fun x hx y hy => ?_, fun x hx y hy => ?_⟩, hM, h5⟩
  · obtain ⟨ha, hne⟩ := (hA x).1 hx
    rw [hK x ha hne]
    exact h3 x ((h1 x).2 ha)
  · obtain ⟨ha, hne⟩ := (hA x).1 hx
    rw [hM x x ha hne] at h
    rcases h.2 with h | h
    · exact hg.irr x ha h
    · exact h.1 rfl
  · obtain ⟨ha, hne⟩ := (hA x).1 hx
    rw [hM x y ha hne] at hy
    refine (hA y).2 ⟨?_, hy.1⟩
    rcases hy.2 with h | h
    · exact hg.ali x ha y h
    · exact hg.ali v hv y h.2.2
  · obtain ⟨ha, hne⟩ := (hA x).1 hx
    rw [hM x y ha hne] at hy
    have hya : Alive G y := by
      rcases hy.2 with h | h
      · exact hg.ali x ha y h
      · exact hg.ali v hv y h.2.2
    rw [hM y x hya hy.1]
    refine ⟨hne, ?_⟩
    rcases hy.2 with h | h
    · exact .inl (hg.sym x ha y h)
    · exact .inr ⟨Ne.symm h.1, h.2.2, h.2.1⟩
end Go.Proofs.Ytnnknbghfbjcnaa.Print
