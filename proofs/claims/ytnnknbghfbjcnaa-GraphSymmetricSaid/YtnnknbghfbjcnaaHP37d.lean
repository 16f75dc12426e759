/- Parts of a graph: the program's and the reference's answers are the least connected vertices. -/
import Derived.Test.YtnnknbghfbjcnaaHP37c
import Derived.Test.YtnnknbghfbjcnaaHPConn
import Derived.Test.YtnnknbghfbjcnaaF20
import Derived.Test.YtnnknbghfbjcnaaF21
namespace Go.Proofs.Ytnnknbghfbjcnaa.Print
open Go.RowKit Go.Proofs.YtnnknbghfbjcnaaW.PrintWords Go.Proofs.YtnnknbghfbjcnaaW.PrintLast Go.Proofs.YtnnknbghfbjcnaaW.PrintMore
set_option linter.unusedVariables false
set_option linter.unusedSimpArgs false

/-- Two vertices have an arc between them. -/
def Adj (l : List S40) (u v : Nat) : Prop := u ≠ v ∧ ∃ a ∈ l, (a.f0 = (u : Int) ∧ a.f1 = (v : Int)) ∨ (a.f1 = (u : Int) ∧ a.f0 = (v : Int))
theorem Adj.symm {l : List S40} (u v : Nat) (h : Adj l u v) : Adj l v u := by
  obtain ⟨hne, a, ha, h⟩ := h
  exact ⟨fun e => hne e.symm, a, ha, h.elim (fun h => .inr ⟨h.2, h.1⟩) (fun h => .inl ⟨h.2, h.1⟩)⟩
theorem mem_rawNb {l : List S40} {v x : Int} : ∀ j, j ≤ l.length → (x ∈ rawNb l v j ↔ x ≠ v ∧ ∃ (i : Nat) (hi : i < l.length), i < j ∧ ((l[i].f0 = v ∧ l[i].f1 = x) ∨ (l[i].f1 = v ∧ l[i].f0 = x)))
  | 0, _ => by
    constructor
    · intro h; cases h
    · rintro ⟨_, i, _, hi, _⟩; omega
  | j + 1, h => by
    have hj : j < l.length := by omega
    have ih := mem_rawNb (l := l) (v := v) (x := x) j (by omega)
    rw [rawNb, getD_arc l j hj, List.mem_append, List.mem_append, ih]
    have e1 : x ∈ (if l[j].f0 = v ∧ ¬ l[j].f1 = v then [l[j].f1] else []) ↔ (l[j].f0 = v ∧ l[j].f1 = x ∧ x ≠ v) := by
      split
      · rename_i hc
        rw [List.mem_singleton]
        exact ⟨fun e => ⟨hc.1, e.symm, by rw [e]; exact hc.2⟩, fun e => e.2.1.symm⟩
      · rename_i hc
        constructor
        · intro h; cases h
        · rintro ⟨h1, h2, h3⟩
          exact absurd ⟨h1, by rw [h2]; exact h3⟩ hc
    have e2 : x ∈ (if l[j].f1 = v ∧ ¬ l[j].f0 = v then [l[j].f0] else []) ↔ (l[j].f1 = v ∧ l[j].f0 = x ∧ x ≠ v) := by
      split
      · rename_i hc
        rw [List.mem_singleton]
        exact ⟨fun e => ⟨hc.1, e.symm, by rw [e]; exact hc.2⟩, fun e => e.2.1.symm⟩
      · rename_i hc
        constructor
        · intro h; cases h
        · rintro ⟨h1, h2, h3⟩
          exact absurd ⟨h1, by rw [h2]; exact h3⟩ hc
    rw [e1, e2]
    constructor
    · rintro (⟨hne, i, hi, hij, hc⟩ | ⟨h1, h2, h3⟩ | ⟨h1, h2, h3⟩)
      · exact ⟨hne, i, hi, by omega, hc⟩
      · exact ⟨h3, j, hj, by omega, .inl ⟨h1, h2⟩⟩
      · exact ⟨h3, j, hj, by omega, .inr ⟨h1, h2⟩⟩
    · rintro ⟨hne, i, hi, hij, hc⟩
      by_cases e : i = j
      · subst e
        rcases hc with hc | hc
        · exact .inr (.inl ⟨hc.1, hc.2, hne⟩)
        · exact .inr (.inr ⟨hc.1, hc.2, hne⟩)
      · exact .inl ⟨hne, i, hi, by omega, hc⟩
theorem mem_nbS {l : List S40} {u x : Nat} : (x : Int) ∈ nbS l (u : Int) ↔ Adj l u x := by
  unfold nbS
  rw [mem_setOf, mem_rawNb _ (Nat.le_refl _)]
  constructor
  · rintro ⟨hne, i, hi, _, hc⟩
    exact ⟨fun e => hne (by rw [e]), l[i], List.getElem_mem hi, hc⟩
  · rintro ⟨hne, a, ha, hc⟩
    obtain ⟨i, hi, rfl⟩ := List.mem_iff_getElem.1 ha
    exact ⟨fun e => hne (by omega), i, hi, hi, hc⟩
theorem nbS_nat {N : Int} {l : List S40} (hc : chk N l = 0) {v x : Int} (h : x ∈ nbS l v) : ∃ y : Nat, x = (y : Int) ∧ y < N.toNat := by
  unfold nbS at h
  rw [mem_setOf, mem_rawNb _ (Nat.le_refl _)] at h
  obtain ⟨_, i, hi, _, hcc⟩ := h
  obtain ⟨h0, h1, ha⟩ := chk_ok hc
  obtain ⟨f0, f1, f2, f3⟩ := ha i hi
  rcases hcc with ⟨_, e⟩ | ⟨_, e⟩
  · exact ⟨x.toNat, by omega, by omega⟩
  · exact ⟨x.toNat, by omega, by omega⟩
theorem Adj.lt {N : Int} {l : List S40} (hc : chk N l = 0) {u v : Nat} (h : Adj l u v) : v < N.toNat := by
  obtain ⟨y, hy, hlt⟩ := nbS_nat hc (mem_nbS.2 h)
  omega

/-! ### Parts by a search -/
/-- The least connected vertices. -/
noncomputable def repS (n : Nat) (l : List S40) : List Int := (List.range n).map fun (v : Nat) => ((rep (Adj l) v : Nat) : Int)
noncomputable def partsS (N : Int) (l : List S40) : List Int := if chk N l = 0 then repS N.toNat l else []
def unl (o : List Int) : Nat := (o.filter fun x => decide (x < 0)).length
theorem unl_set : ∀ (o : List Int) (i : Nat) (x : Int) (h : i < o.length), o[i] < 0 → 0 ≤ x → unl (o.set i x) + 1 = unl o
  | y :: r, 0, x, h, hn, hx => by
    have h1 : ¬ x < 0 := by omega
    have hn' : y < 0 := hn
    simp [unl, h1, hn']
  | y :: r, i + 1, x, h, hn, hx => by
    have ih := unl_set r i x (by simpa using h) hn hx
    unfold unl at ih ⊢
    rw [List.set_cons_succ]
    by_cases hy : y < 0
    · rw [List.filter_cons_of_pos (by simpa using hy), List.filter_cons_of_pos (by simpa using hy)]
      simp only [List.length_cons]
      omega
    · rw [List.filter_cons_of_neg (by simpa using hy), List.filter_cons_of_neg (by simpa using hy)]
      exact ih
structure Inv1 (n : Nat) (l : List S40) (v : Nat) (o : List Int) : Prop where
  len : o.length = n
  low : ∀ (w : Nat) (h : w < o.length), rep (Adj l) w < v → o[w] = ((rep (Adj l) w : Nat) : Int)
  high : ∀ (w : Nat) (h : w < o.length), ¬ rep (Adj l) w < v → o[w] = -1
structure Inv2 (n : Nat) (l : List S40) (v : Nat) (st : List Nat) (u : Option (Nat × Nat)) (o : List Int) : Prop where
  len : o.length = n
  low : ∀ (w : Nat) (h : w < o.length), rep (Adj l) w < v → o[w] = ((rep (Adj l) w : Nat) : Int)
  high : ∀ (w : Nat) (h : w < o.length), v < rep (Adj l) w → o[w] = -1
  mid : ∀ (w : Nat) (h : w < o.length), rep (Adj l) w = v → o[w] = -1 ∨ o[w] = (v : Int)
  root : ∃ h : v < o.length, o[v] = (v : Int)
  stack : ∀ s ∈ st, s < n ∧ rep (Adj l) s = v
  cur : ∀ p, u = some p → p.1 < n ∧ rep (Adj l) p.1 = v ∧ ∀ (i : Nat) (hi : i < (nbS l (p.1 : Int)).length), i < p.2 → ∀ (y : Nat) (hy : y < o.length), (nbS l (p.1 : Int))[i] = (y : Int) → o[y] = (v : Int)
  closed : ∀ (w : Nat) (h : w < o.length), rep (Adj l) w = v → o[w] = (v : Int) → w ∈ st ∨ (∃ p, u = some p ∧ p.1 = w) ∨ ∀ (y : Nat) (hy : y < o.length), Adj l w y → o[y] = (v : Int)
theorem Inv2.done {n : Nat} {l : List S40} {N : Int} (hc : chk N l = 0) (hn : n = N.toNat) {v : Nat} {o : List Int} (h : Inv2 n l v [] none o) : Inv1 n l (v + 1) o := by
  have hs := @Adj.symm l
  obtain ⟨hv, hroot⟩ := h.root
  have hrv : rep (Adj l) v = v := by
    rcases Nat.lt_or_ge (rep (Adj l) v) v with hlt | hge
    · have := h.low v hv hlt
      rw [hroot] at this
      omega
    · exact Nat.le_antisymm (rep_le_self _ _) hge
  have all : ∀ w, Conn (Adj l) v w → ∀ hw : w < o.length, o[w] = (v : Int) := by
    intro w hw
    induction hw with
    | refl => exact fun _ => hroot
    | tail hc1 ha ih =>
      rename_i x w
      intro hw
      have hxn : x < o.length := by
        have := Adj.lt hc (Adj.symm _ _ ha)
        have := h.len
        omega
      have hx := ih hxn
      have hrx : rep (Adj l) x = v := (rep_eq hs hc1).symm.trans hrv
      rcases h.closed x hxn hrx hx with hm | ⟨p, hp, _⟩ | hcl
      · cases hm
      · cases hp
      · exact hcl w hw ha
  refine ⟨h.len, fun w hw hlt => ?_, fun w hw hlt => h.high w hw (by omega)⟩
  rcases Nat.lt_or_ge (rep (Adj l) w) v with h1 | h1
  · exact h.low w hw h1
  · have he : rep (Adj l) w = v := by omega
    rw [he]
    refine all w ?_ hw
    have := rep_conn (Adj l) w
    rwa [he] at this
theorem eq_nil_or_snoc {α : Type _} (l : List α) : l = [] ∨ ∃ (r : List α) (x : α), l = r ++ [x] := by
  rcases List.eq_nil_or_concat l with h | ⟨r, x, h⟩
  · exact .inl h
  · exact .inr ⟨r, x, by rw [h, List.concat_eq_append]⟩
theorem parts_l3 (N : Int) (l : List S40) (hl : l.length < 100000000000) (hc : chk N l = 0) (v : Nat) (hv : v < N.toNat) (R : List Int) (m : Nat)
    (hcont : ∀ (st : List Nat) (o : List Int), 2 * unl o + st.length ≤ m → st.length + unl o ≤ N.toNat → Inv2 N.toNat l v st none o → Ev (fun k => graph_Parts.l2 k (v : Int) (st.map fun (s : Nat) => (s : Int)) (nbRows N.toNat l) o (N.toNat : Int) (v : Int)) R) :
    ∀ (d u i : Nat) (st : List Nat) (o : List Int), i + d = (nbS l (u : Int)).length → 2 * unl o + st.length ≤ m → st.length + unl o ≤ N.toNat → Inv2 N.toNat l v st (some (u, i)) o →
      Ev (fun k => graph_Parts.l3 k (v : Int) (st.map fun (s : Nat) => (s : Int)) (nbRows N.toNat l) o (N.toNat : Int) (v : Int) (nbS l (u : Int)) ((nbS l (u : Int)).length : Int) (i : Int)) R
  | 0, u, i, st, o, h, hm, hb, inv => by
    have hi : i = (nbS l (u : Int)).length := by omega
    obtain ⟨hun, hru, hnb⟩ := inv.cur (u, i) rfl
    have inv' : Inv2 N.toNat l v st none o := by
      refine ⟨inv.len, inv.low, inv.high, inv.mid, inv.root, inv.stack, fun p hp => (by cases hp), fun w hw hrw how => ?_⟩
      rcases inv.closed w hw hrw how with h1 | ⟨p, hp, hpw⟩ | h1
      · exact .inl h1
      · right; right
        intro y hy ha
        cases hp
        have hpw' : u = w := hpw
        subst hpw'
        obtain ⟨q, hq, hqe⟩ := List.mem_iff_getElem.1 (mem_nbS.2 ha)
        exact hnb q hq (by rw [hi]; exact hq) y hy hqe
      · exact .inr (.inr h1)
    refine Ev.step (fun k => ?_) (hcont st o hm hb inv')
    simp only [graph_Parts.l3]
    rw [if_neg (by omega)]
  | d + 1, u, i, st, o, h, hm, hb, inv => by
    obtain ⟨h0, h1, _⟩ := chk_ok hc
    have hi : i < (nbS l (u : Int)).length := by omega
    obtain ⟨hun, hru, hnb⟩ := inv.cur (u, i) rfl
    have hrowlen : (nbS l (u : Int)).length < 1000000000000 := by
      have h2 := rawNb_length l (u : Int) l.length
      have h3 := length_setOf (rawNb l (u : Int) l.length)
      show (setOf (rawNb l (u : Int) l.length)).length < _
      omega
    obtain ⟨y, hy, hyn⟩ := nbS_nat hc (List.getElem_mem hi)
    have ha : Adj l u y := mem_nbS.1 (by rw [← hy]; exact List.getElem_mem hi)
    have hyo : y < o.length := by rw [inv.len]; exact hyn
    have hry : rep (Adj l) y = v := (rep_eq (@Adj.symm l) (Conn.one ha)).symm.trans hru
    have hrd : rd (nbS l (u : Int)) (i : Int) = (y : Int) := by rw [rd_int _ i hi, hy]
    rcases inv.mid y hyo hry with hoy | hoy
    · -- a new vertex
      have hv0 : (0 : Int) ≤ (v : Int) := by omega
      have hu2 := unl_set o y (v : Int) hyo (by rw [hoy]; omega) hv0
      have inv' : Inv2 N.toNat l v (st ++ [y]) (some (u, i + 1)) (o.set y (v : Int)) := by
        have hlen : (o.set y (v : Int)).length = o.length := List.length_set
        refine ⟨by rw [hlen]; exact inv.len, fun w hw hlt => ?_, fun w hw hlt => ?_, fun w hw he => ?_, ?_, fun s hs => ?_, fun p hp => ?_, fun w hw hrw how => ?_⟩
        · rw [List.getElem_set_ne (by intro e; subst e; omega)]
          exact inv.low w (by omega) hlt
        · rw [List.getElem_set_ne (by intro e; subst e; omega)]
          exact inv.high w (by omega) hlt
        · rw [List.getElem_set]
          split
          · exact .inr rfl
          · exact inv.mid w (by omega) he
        · obtain ⟨hvl, hroot⟩ := inv.root
          refine ⟨by omega, ?_⟩
          rw [List.getElem_set]
          split
          · rfl
          · exact hroot
        · rcases List.mem_append.1 hs with hs | hs
          · exact inv.stack s hs
          · rw [List.mem_singleton] at hs
            subst hs
            exact ⟨hyn, hry⟩
        · cases hp
          refine ⟨hun, hru, fun q hq hqi z hz hqz => ?_⟩
          rw [List.getElem_set]
          split
          · rfl
          · rename_i hne
            have hqi' : q < i + 1 := hqi
            rcases Nat.lt_or_ge q i with hlt | hge
            · exact hnb q hq hlt z (by omega) hqz
            · have : q = i := by omega
              subst this
              rw [hy] at hqz
              omega
        · by_cases hwy : y = w
          · subst hwy
            exact .inl (List.mem_append_right _ (List.mem_singleton.2 rfl))
          · rw [List.getElem_set_ne hwy] at how
            rcases inv.closed w (by omega) hrw how with h2 | ⟨p, hp, hpw⟩ | h2
            · exact .inl (List.mem_append_left _ h2)
            · cases hp
              exact .inr (.inl ⟨_, rfl, hpw⟩)
            · refine .inr (.inr fun z hz haz => ?_)
              rw [List.getElem_set]
              split
              · rfl
              · exact h2 z (by omega) haz
      have ih := parts_l3 N l hl hc v hv R m hcont d u (i + 1) (st ++ [y]) (o.set y (v : Int)) (by omega) (by rw [List.length_append, List.length_singleton]; omega) (by rw [List.length_append, List.length_singleton]; omega) inv'
      refine Ev.step (fun k => ?_) ih
      simp only [graph_Parts.l3]
      rw [if_pos (by omega), if_pos (by omega), if_pos (by omega), hrd, if_pos (by omega), if_pos (by omega), rd_int o y hyo, hoy, if_pos (by omega), if_pos (by rw [List.length_map]; omega), wrap_succ (by omega), show ((y : Int)).toNat = y by omega, List.map_append]
      rfl
    · -- seen before
      have inv' : Inv2 N.toNat l v st (some (u, i + 1)) o := by
        refine ⟨inv.len, inv.low, inv.high, inv.mid, inv.root, inv.stack, fun p hp => ?_, fun w hw hrw how => ?_⟩
        · cases hp
          refine ⟨hun, hru, fun q hq hqi z hz hqz => ?_⟩
          have hqi' : q < i + 1 := hqi
          rcases Nat.lt_or_ge q i with hlt | hge
          · exact hnb q hq hlt z hz hqz
          · have : q = i := by omega
            subst this
            rw [hy] at hqz
            have : y = z := by omega
            subst this
            exact hoy
        · rcases inv.closed w hw hrw how with h2 | ⟨p, hp, hpw⟩ | h2
          · exact .inl h2
          · cases hp
            exact .inr (.inl ⟨_, rfl, hpw⟩)
          · exact .inr (.inr h2)
      have ih := parts_l3 N l hl hc v hv R m hcont d u (i + 1) st o (by omega) hm hb inv'
      refine Ev.step (fun k => ?_) ih
      simp only [graph_Parts.l3]
      rw [if_pos (by omega), if_pos (by omega), if_pos (by omega), hrd, if_pos (by omega), if_pos (by omega), rd_int o y hyo, hoy, if_neg (by omega), wrap_succ (by omega)]
theorem parts_l2 (N : Int) (l : List S40) (hl : l.length < 100000000000) (hc : chk N l = 0) (v : Nat) (hv : v < N.toNat) (R : List Int)
    (hcont : ∀ o : List Int, Inv1 N.toNat l (v + 1) o → Ev (fun k => graph_Parts.l1 k (nbRows N.toNat l) o (N.toNat : Int) ((v + 1 : Nat) : Int)) R) :
    ∀ (m : Nat) (st : List Nat) (o : List Int), 2 * unl o + st.length ≤ m → st.length + unl o ≤ N.toNat → Inv2 N.toNat l v st none o → Ev (fun k => graph_Parts.l2 k (v : Int) (st.map fun (s : Nat) => (s : Int)) (nbRows N.toNat l) o (N.toNat : Int) (v : Int)) R := by
  obtain ⟨h0, h1, _⟩ := chk_ok hc
  intro m
  induction m with
  | zero =>
    intro st o hm hb inv
    have : st = [] := List.eq_nil_of_length_eq_zero (by omega)
    subst this
    refine Ev.step (fun k => ?_) (hcont o (inv.done hc rfl))
    simp only [graph_Parts.l2]
    rw [if_neg (by simp), wrap_succ (by omega)]
  | succ m ih =>
    intro st o hm hb inv
    rcases eq_nil_or_snoc st with rfl | ⟨st', u, rfl⟩
    · refine Ev.step (fun k => ?_) (hcont o (inv.done hc rfl))
      simp only [graph_Parts.l2]
      rw [if_neg (by simp), wrap_succ (by omega)]
    · have hst : (st' ++ [u]).length = st'.length + 1 := by simp
      obtain ⟨hun, hru⟩ := inv.stack u (by simp)
      have inv' : Inv2 N.toNat l v st' (some (u, 0)) o := by
        refine ⟨inv.len, inv.low, inv.high, inv.mid, inv.root, fun s hs => inv.stack s (List.mem_append_left _ hs), fun p hp => ?_, fun w hw hrw how => ?_⟩
        · cases hp
          exact ⟨hun, hru, fun q hq hqi => by have : q < 0 := hqi; omega⟩
        · rcases inv.closed w hw hrw how with h2 | ⟨p, hp, _⟩ | h2
          · rcases List.mem_append.1 h2 with h2 | h2
            · exact .inl h2
            · rw [List.mem_singleton] at h2
              exact .inr (.inl ⟨_, rfl, h2.symm⟩)
          · cases hp
          · exact .inr (.inr h2)
      rw [hst] at hm hb
      have h3 := parts_l3 N l hl hc v hv R m ih (nbS l (u : Int)).length u 0 st' o (by omega) (by omega) (by omega) inv'
      have hmap : ((st' ++ [u]).map fun (s : Nat) => (s : Int)) = (st'.map fun (s : Nat) => (s : Int)) ++ [(u : Int)] := by simp
      have hml : ((st' ++ [u]).map fun (s : Nat) => (s : Int)).length = st'.length + 1 := by simp
      have hw : wrap64 (((st'.length + 1 : Nat) : Int) - 1) = (st'.length : Int) := by
        have : st'.length ≤ N.toNat := by omega
        unfold wrap64
        omega
      have hrdu : rd ((st' ++ [u]).map fun (s : Nat) => (s : Int)) (st'.length : Int) = (u : Int) := by
        rw [rd_int _ st'.length (by rw [hml]; omega)]
        simp
      have htk : ((st' ++ [u]).map fun (s : Nat) => (s : Int)).take st'.length = st'.map fun (s : Nat) => (s : Int) := by
        rw [hmap, List.take_left' (by simp)]
      refine Ev.step (fun k => ?_) h3
      simp only [graph_Parts.l2]
      rw [hml, if_pos (by omega), hw, if_pos (by omega), if_pos (by omega), if_pos (by omega), hrdu, if_pos (by omega), if_pos (by rw [nbRows_length]; omega), show ((st'.length : Int)).toNat = st'.length by omega, htk, rd_row _ u (by rw [nbRows_length]; exact hun), nbRows_get]
      rfl
end Go.Proofs.Ytnnknbghfbjcnaa.Print
