/- Parts of a graph: the program's and the reference's answers are the least connected vertices. -/
import Derived.Test.YtnnknbghfbjcnaaHP37c
import Derived.Test.YtnnknbghfbjcnaaHPConn
import Derived.Test.YtnnknbghfbjcnaaF20
namespace Go.Proofs.Ytnnknbghfbjcnaa.Print
open Go.RowKit Go.Proofs.YtnnknbghfbjcnaaW.PrintWords Go.Proofs.YtnnknbghfbjcnaaW.PrintLast Go.Proofs.YtnnknbghfbjcnaaW.PrintMore
set_option linter.unusedVariables false
set_option linter.unusedSimpArgs false

theorem Adj.lt {N : Int} {l : List S40} (hc : chk N l = 0) {u v : Nat} (h : Adj l u v) : v < N.toNat := by
  obtain ⟨y, hy, hlt⟩ := nbS_nat hc (mem_nbS.2 h)
  omega

/-! ### Parts by a search -/
/-- The least connected vertices. -/
noncomputable def repS (n : Nat) (l : List S40) : List Int := (List.range n).map fun (v : Nat) => ((rep (Adj l) v : Nat) : Int)
noncomputable def partsS (N : Int) (l : List S40) : List Int := if chk N l = 0 then repS N.toNat l else []
def unl (o : List Int) : Nat := (o.filter fun x => decide (x < 0)).length
theorem unl_set : ∀ (o : List Int) (i : Nat) (x : Int) (h : i < o.length), o[i] < 0 → 0 ≤ x → unl (o.set i x) + 1 = unl o
  | y :: r, 0, x, h, hn, hx => by
    have h1 : ¬ x < 0 := by omega
    have hn' : y < 0 := hn
    simp [unl, h1, hn']
  | y :: r, i + 1, x, h, hn, hx => by
    have ih := unl_set r i x (by simpa using h) hn hx
    unfold unl at ih ⊢
    rw [List.set_cons_succ]
    by_cases hy : y < 0
    · rw [List.filter_cons_of_pos (by simpa using hy), List.filter_cons_of_pos (by simpa using hy)]
      simp only [List.length_cons]
      omega
    · rw [List.filter_cons_of_neg (by simpa using hy), List.filter_cons_of_neg (by simpa using hy)]
      exact ih
structure Inv1 (n : Nat) (l : List S40) (v : Nat) (o : List Int) : Prop where
  len : o.length = n
  low : ∀ (w : Nat) (h : w < o.length), rep (Adj l) w < v → o[w] = ((rep (Adj l) w : Nat) : Int)
  high : ∀ (w : Nat) (h : w < o.length), ¬ rep (Adj l) w < v → o[w] = -1
structure Inv2 (n : Nat) (l : List S40) (v : Nat) (st : List Nat) (u : Option (Nat × Nat)) (o : List Int) : Prop where
  len : o.length = n
  low : ∀ (w : Nat) (h : w < o.length), rep (Adj l) w < v → o[w] = ((rep (Adj l) w : Nat) : Int)
  high : ∀ (w : Nat) (h : w < o.length), v < rep (Adj l) w → o[w] = -1
  mid : ∀ (w : Nat) (h : w < o.length), rep (Adj l) w = v → o[w] = -1 ∨ o[w] = (v : Int)
  root : ∃ h : v < o.length, o[v] = (v : Int)
  stack : ∀ s ∈ st, s < n ∧ rep (Adj l) s = v
  cur : ∀ p, u = some p → p.1 < n ∧ rep (Adj l) p.1 = v ∧ ∀ (i : Nat) (hi : i < (nbS l (p.1 : Int)).length), i < p.2 → ∀ (y : Nat) (hy : y < o.length), (nbS l (p.1 : Int))[i] = (y : Int) → o[y] = (v : Int)
  closed : ∀ (w : Nat) (h : w < o.length), rep (Adj l) w = v → o[w] = (v : Int) → w ∈ st ∨ (∃ p, u = some p ∧ p.1 = w) ∨ ∀ (y : Nat) (hy : y < o.length), Adj l w y → o[y] = (v : Int)
theorem Inv2.done {n : Nat} {l : List S40} {N : Int} (hc : chk N l = 0) (hn : n = N.toNat) {v : Nat} {o : List Int} (h : Inv2 n l v [] none o) : Inv1 n l (v + 1) o := by
  have hs := @Adj.symm l
  obtain ⟨hv, hroot⟩ := h.root
  have hrv : rep (Adj l) v = v := by
    rcases Nat.lt_or_ge (rep (Adj l) v) v with hlt | hge
    · have := h.low v hv hlt
      rw [hroot] at this
      omega
    · exact Nat.le_antisymm (rep_le_self _ _) hge
  have all : ∀ w, Conn (Adj l) v w → ∀ hw : w < o.length, o[w] = (v : Int) := by
    intro w hw
    induction hw with
    | refl => exact fun _ => hroot
    | tail hc1 ha ih =>
      rename_i x w
      intro hw
      have hxn : x < o.length := by
        have := Adj.lt hc (Adj.symm _ _ ha)
        have := h.len
        omega
      have hx := ih hxn
      have hrx : rep (Adj l) x = v := (rep_eq hs hc1).symm.trans hrv
      rcases h.closed x hxn hrx hx with hm | ⟨p, hp, _⟩ | hcl
      · cases hm
      · cases hp
      · exact hcl w hw ha
  refine ⟨h.len, fun w hw hlt => ?_, fun w hw hlt => h.high w hw (by omega)⟩
  rcases Nat.lt_or_ge (rep (Adj l) w) v with h1 | h1
  · exact h.low w hw h1
  · have he : rep (Adj l) w = v := by omega
    rw [he]
    refine all w ?_ hw
    have := rep_conn (Adj l) w
    rwa [he] at this
theorem eq_nil_or_snoc {α : Type _} (l : List α) : l = [] ∨ ∃ (r : List α) (x : α), l = r ++ [x] := by
  rcases List.eq_nil_or_concat l with h | ⟨r, x, h⟩
  · exact .inl h
  · exact .inr ⟨r, x, by rw [h, List.concat_eq_append]⟩
theorem parts_l3 (N : Int) (l : List S40) (hl : l.length < 100000000000) (hc : chk N l = 0) (v : Nat) (hv : v < N.toNat) (R : List Int) (m : Nat)
    (hcont : ∀ (st : List Nat) (o : List Int), 2 * unl o + st.length ≤ m → st.length + unl o ≤ N.toNat → Inv2 N.toNat l v st none o → Ev (fun k => graph_Parts.l2 k (v : Int) (st.map fun (s : Nat) => (s : Int)) (nbRows N.toNat l) o (N.toNat : Int) (v : Int)) R) :
    ∀ (d u i : Nat) (st : List Nat) (o : List Int), i + d = (nbS l (u : Int)).length → 2 * unl o + st.length ≤ m → st.length + unl o ≤ N.toNat → Inv2 N.toNat l v st (some (u, i)) o →
      Ev (fun k => graph_Parts.l3 k (v : Int) (st.map fun (s : Nat) => (s : Int)) (nbRows N.toNat l) o (N.toNat : Int) (v : Int) (nbS l (u : Int)) ((nbS l (u : Int)).length : Int) (i : Int)) R
  | 0, u, i, st, o, h, hm, hb, inv => by
    have hi : i = (nbS l (u : Int)).length := by omega
    obtain ⟨hun, hru, hnb⟩ := inv.cur (u, i) rfl
    have inv' : Inv2 N.toNat l v st none o := by
      refine ⟨inv.len, inv.low, inv.high, inv.mid, inv.root, inv.stack, fun p hp => (by cases hp), fun w hw hrw how => ?_⟩
      rcases inv.closed w hw hrw how with h1 | ⟨p, hp, hpw⟩ | h1
      · exact .inl h1
      · right; right
        intro y hy ha
        cases hp
        have hpw' : u = w := hpw
        subst hpw'
        obtain ⟨q, hq, hqe⟩ := List.mem_iff_getElem.1 (mem_nbS.2 ha)
        exact hnb q hq (by rw [hi]; exact hq) y hy hqe
      · exact .inr (.inr h1)
    refine Ev.step (fun k => ?_) (hcont st o hm hb inv')
    simp only [graph_Parts.l3]
    rw [if_neg (by omega)]
  | d + 1, u, i, st, o, h, hm, hb, inv => by
    obtain ⟨h0, h1, _⟩ := chk_ok hc
    have hi : i < (nbS l (u : Int)).length := by omega
    obtain ⟨hun, hru, hnb⟩ := inv.cur (u, i) rfl
    have hrowlen : (nbS l (u : Int)).length < 1000000000000 := by
      have h2 := rawNb_length l (u : Int) l.length
      have h3 := length_setOf (rawNb l (u : Int) l.length)
      show (setOf (rawNb l (u : Int) l.length)).length < _
      omega
    obtain ⟨y, hy, hyn⟩ := nbS_nat hc (List.getElem_mem hi)
    have ha : Adj l u y := mem_nbS.1 (by rw [← hy]; exact List.getElem_mem hi)
    have hyo : y < o.length := by rw [inv.len]; exact hyn
    have hry : rep (Adj l) y = v := (rep_eq (@Adj.symm l) (Conn.one ha)).symm.trans hru
    have hrd : rd (nbS l (u : Int)) (i : Int) = (y : Int) := by rw [rd_int _ i hi, hy]
    rcases inv.mid y hyo hry with hoy | hoy
    · -- a new vertex
      have hv0 : (0 : Int) ≤ (v : Int) := by omega
      have hu2 := unl_set o y (v : Int) hyo (by rw [hoy]; omega) hv0
      have inv' : Inv2 N.toNat l v (st ++ [y]) (some (u, i + 1)) (o.set y (v : Int)) := by
        have hlen : (o.set y (v : Int)).length = o.length := List.length_set
        refine ⟨by rw [hlen]; exact inv.len, fun w hw hlt => ?_, fun w hw hlt => ?_, fun w hw he => ?_, ?_, fun s hs => ?_, fun p hp => ?_, fun w hw hrw how => ?_⟩
        · rw [List.getElem_set_ne (by intro e; subst e; omega)]
          exact inv.low w (by omega) hlt
        · rw [List.getElem_set_ne (by intro e; subst e; omega)]
          exact inv.high w (by omega) hlt
        · rw [List.getElem_set]
          split
          · exact .inr rfl
          · exact inv.mid w (by omega) he
        · obtain ⟨hvl, hroot⟩ := inv.root
          refine ⟨by omega, ?_⟩
          rw [List.getElem_set]
          split
          · rfl
          · exact hroot
        · rcases List.mem_append.1 hs with hs | hs
          · exact inv.stack s hs
          · rw [List.mem_singleton] at hs
            subst hs
            exact ⟨hyn, hry⟩
        · cases hp
          refine ⟨hun, hru, fun q hq hqi z hz hqz => ?_⟩
          rw [List.getElem_set]
          split
          · rfl
          · rename_i hne
            have hqi' : q < i + 1 := hqi
            rcases Nat.lt_or_ge q i with hlt | hge
            · exact hnb q hq hlt z (by omega) hqz
            · have : q = i := by omega
              subst this
              rw [hy] at hqz
              omega
        · by_cases hwy : y = w
          · subst hwy
            exact .inl (List.mem_append_right _ (List.mem_singleton.2 rfl))
          · rw [List.getElem_set_ne hwy] at how
            rcases inv.closed w (by omega) hrw how with h2 | ⟨p, hp, hpw⟩ | h2
            · exact .inl (List.mem_append_left _ h2)
            · cases hp
              exact .inr (.inl ⟨_, rfl, hpw⟩)
            · refine .inr (.inr fun z hz haz => ?_)
              rw [List.getElem_set]
              split
              · rfl
              · exact h2 z (by omega) haz
      have ih := parts_l3 N l hl hc v hv R m hcont d u (i + 1) (st ++ [y]) (o.set y (v : Int)) (by omega) (by rw [List.length_append, List.length_singleton]; omega) (by rw [List.length_append, List.length_singleton]; omega) inv'
      refine Ev.step (fun k => ?_) ih
      simp only [graph_Parts.l3]
      rw [if_pos (by omega), if_pos (by omega), if_pos (by omega), hrd, if_pos (by omega), if_pos (by omega), rd_int o y hyo, hoy, if_pos (by omega), if_pos (by rw [List.length_map]; omega), wrap_succ (by omega), show ((y : Int)).toNat = y by omega, List.map_append]
      rfl
    · -- seen before
      have inv' : Inv2 N.toNat l v st (some (u, i + 1)) o := by
        refine ⟨inv.len, inv.low, inv.high, inv.mid, inv.root, inv.stack, fun p hp => ?_, fun w hw hrw how => ?_⟩
        · cases hp
          refine ⟨hun, hru, fun q hq hqi z hz hqz => ?_⟩
          have hqi' : q < i + 1 := hqi
          rcases Nat.lt_or_ge q i with hlt | hge
          · exact hnb q hq hlt z hz hqz
          · have : q = i := by omega
            subst this
            rw [hy] at hqz
            have : y = z := by omega
            subst this
            exact hoy
        · rcases inv.closed w hw hrw how with h2 | ⟨p, hp, hpw⟩ | h2
          · exact .inl h2
          · cases hp
            exact .inr (.inl ⟨_, rfl, hpw⟩)
          · exact .inr (.inr h2)
      have ih := parts_l3 N l hl hc v hv R m hcont d u (i + 1) st o (by omega) hm hb inv'
      refine Ev.step (fun k => ?_) ih
      simp only [graph_Parts.l3]
      rw [if_pos (by omega), if_pos (by omega), if_pos (by omega), hrd, if_pos (by omega), if_pos (by omega), rd_int o y hyo, hoy, if_neg (by omega), wrap_succ (by omega)]
theorem parts_l2 (N : Int) (l : List S40) (hl : l.length < 100000000000) (hc : chk N l = 0) (v : Nat) (hv : v < N.toNat) (R : List Int)
    (hcont : ∀ o : List Int, Inv1 N.toNat l (v + 1) o → Ev (fun k => graph_Parts.l1 k (nbRows N.toNat l) o (N.toNat : Int) ((v + 1 : Nat) : Int)) R) :
    ∀ (m : Nat) (st : List Nat) (o : List Int), 2 * unl o + st.length ≤ m → st.length + unl o ≤ N.toNat → Inv2 N.toNat l v st none o → Ev (fun k => graph_Parts.l2 k (v : Int) (st.map fun (s : Nat) => (s : Int)) (nbRows N.toNat l) o (N.toNat : Int) (v : Int)) R := by
  obtain ⟨h0, h1, _⟩ := chk_ok hc
  intro m
  induction m with
  | zero =>
    intro st o hm hb inv
    have : st = [] := List.eq_nil_of_length_eq_zero (by omega)
    subst this
    refine Ev.step (fun k => ?_) (hcont o (inv.done hc rfl))
    simp only [graph_Parts.l2]
    rw [if_neg (by simp), wrap_succ (by omega)]
  | succ m ih =>
    intro st o hm hb inv
    rcases eq_nil_or_snoc st with rfl | ⟨st', u, rfl⟩
    · refine Ev.step (fun k => ?_) (hcont o (inv.done hc rfl))
      simp only [graph_Parts.l2]
      rw [if_neg (by simp), wrap_succ (by omega)]
    · have hst : (st' ++ [u]).length = st'.length + 1 := by simp
      obtain ⟨hun, hru⟩ := inv.stack u (by simp)
      have inv' : Inv2 N.toNat l v st' (some (u, 0)) o := by
        refine ⟨inv.len, inv.low, inv.high, inv.mid, inv.root, fun s hs => inv.stack s (List.mem_append_left _ hs), fun p hp => ?_, fun w hw hrw how => ?_⟩
        · cases hp
          exact ⟨hun, hru, fun q hq hqi => by have : q < 0 := hqi; omega⟩
        · rcases inv.closed w hw hrw how with h2 | ⟨p, hp, _⟩ | h2
          · rcases List.mem_append.1 h2 with h2 | h2
            · exact .inl h2
            · rw [List.mem_singleton] at h2
              exact .inr (.inl ⟨_, rfl, h2.symm⟩)
          · cases hp
          · exact .inr (.inr h2)
      rw [hst] at hm hb
      have h3 := parts_l3 N l hl hc v hv R m ih (nbS l (u : Int)).length u 0 st' o (by omega) (by omega) (by omega) inv'
      have hmap : ((st' ++ [u]).map fun (s : Nat) => (s : Int)) = (st'.map fun (s : Nat) => (s : Int)) ++ [(u : Int)] := by simp
      have hml : ((st' ++ [u]).map fun (s : Nat) => (s : Int)).length = st'.length + 1 := by simp
      have hw : wrap64 (((st'.length + 1 : Nat) : Int) - 1) = (st'.length : Int) := by
        have : st'.length ≤ N.toNat := by omega
        unfold wrap64
        omega
      have hrdu : rd ((st' ++ [u]).map fun (s : Nat) => (s : Int)) (st'.length : Int) = (u : Int) := by
        rw [rd_int _ st'.length (by rw [hml]; omega)]
        simp
      have htk : ((st' ++ [u]).map fun (s : Nat) => (s : Int)).take st'.length = st'.map fun (s : Nat) => (s : Int) := by
        rw [hmap, List.take_left' (by simp)]
      refine Ev.step (fun k => ?_) h3
      simp only [graph_Parts.l2]
      rw [hml, if_pos (by omega), hw, if_pos (by omega), if_pos (by omega), if_pos (by omega), hrdu, if_pos (by omega), if_pos (by rw [nbRows_length]; omega), show ((st'.length : Int)).toNat = st'.length by omega, htk, rd_row _ u (by rw [nbRows_length]; exact hun), nbRows_get]
      rfl
theorem unl_le (o : List Int) : unl o ≤ o.length := List.length_filter_le ..
theorem Inv1.start {n : Nat} {l : List S40} {N : Int} (hc : chk N l = 0) (hn : n = N.toNat) {v : Nat} (hv : v < n) {o : List Int} (h : Inv1 n l v o) (hr : rep (Adj l) v = v) :
    Inv2 n l v [v] none (o.set v (v : Int)) := by
  have hlen : (o.set v (v : Int)).length = o.length := List.length_set
  have hl := h.len
  refine ⟨by omega, fun w hw hlt => ?_, fun w hw hlt => ?_, fun w hw he => ?_, ⟨by omega, by rw [List.getElem_set_self]⟩, fun s hs => ?_, fun p hp => (by cases hp), fun w hw hrw how => ?_⟩
  · rw [List.getElem_set_ne (by intro e; subst e; omega)]
    exact h.low w (by omega) hlt
  · rw [List.getElem_set_ne (by intro e; subst e; omega)]
    exact h.high w (by omega) (by omega)
  · rw [List.getElem_set]
    split
    · exact .inr rfl
    · exact .inl (h.high w (by omega) (by omega))
  · rw [List.mem_singleton] at hs
    subst hs
    exact ⟨hv, hr⟩
  · by_cases e : v = w
    · subst e
      exact .inl (List.mem_singleton.2 rfl)
    · rw [List.getElem_set_ne e, h.high w (by omega) (by omega)] at how
      omega
theorem Inv1.skip {n : Nat} {l : List S40} {v : Nat} {o : List Int} (h : Inv1 n l v o) (hr : rep (Adj l) v < v) : Inv1 n l (v + 1) o := by
  refine ⟨h.len, fun w hw hlt => ?_, fun w hw hlt => h.high w hw (by omega)⟩
  rcases Nat.lt_or_ge (rep (Adj l) w) v with h1 | h1
  · exact h.low w hw h1
  · have he : rep (Adj l) w = v := by omega
    have := rep_rep (@Adj.symm l) w
    rw [he] at this
    omega
theorem Inv1.last {n : Nat} {l : List S40} {o : List Int} (h : Inv1 n l n o) : o = repS n l := by
  have hl := h.len
  refine List.ext_getElem (by simp [repS, hl]) fun i h1 h2 => ?_
  rw [h.low i h1 (by have := rep_le_self (Adj l) i; omega)]
  simp [repS]
theorem parts_l1 (N : Int) (l : List S40) (hl : l.length < 100000000000) (hc : chk N l = 0) : ∀ (d v : Nat) (o : List Int), v + d = N.toNat → Inv1 N.toNat l v o →
    Ev (fun k => graph_Parts.l1 k (nbRows N.toNat l) o (N.toNat : Int) (v : Int)) (repS N.toNat l)
  | 0, v, o, h, inv => by
    have hv : v = N.toNat := by omega
    subst hv
    refine Ev.step1 fun k => ?_
    simp only [graph_Parts.l1]
    rw [if_neg (by omega), inv.last]
  | d + 1, v, o, h, inv => by
    obtain ⟨h0, h1, _⟩ := chk_ok hc
    have hv : v < N.toNat := by omega
    have hlen := inv.len
    have hvo : v < o.length := by omega
    rcases Nat.lt_or_ge (rep (Adj l) v) v with hlt | hge
    · refine Ev.step (fun k => ?_) (parts_l1 N l hl hc d (v + 1) o (by omega) (inv.skip hlt))
      simp only [graph_Parts.l1]
      rw [if_pos (by omega), if_pos (by omega), if_pos (by omega), rd_int o v hvo, inv.low v hvo hlt, if_pos (by omega), wrap_succ (by omega)]
    · have hrv : rep (Adj l) v = v := Nat.le_antisymm (rep_le_self _ _) hge
      have hov := inv.high v hvo (by omega)
      have hu := unl_set o v (v : Int) hvo (by omega) (by omega)
      have hul := unl_le o
      refine Ev.step (fun k => ?_) (parts_l2 N l hl hc v hv (repS N.toNat l) (fun o' inv' => parts_l1 N l hl hc d (v + 1) o' (by omega) inv') (2 * unl (o.set v (v : Int)) + 1) [v] (o.set v (v : Int)) (by simp) (by simp; omega) (inv.start hc rfl hv hrv))
      simp only [graph_Parts.l1]
      rw [if_pos (by omega), if_pos (by omega), if_pos (by omega), rd_int o v hvo, hov, if_neg (by omega), show ((v : Int)).toNat = v by omega]
      rfl
theorem parts_l0 (N : Int) (l : List S40) (hl : l.length < 100000000000) (hc : chk N l = 0) : ∀ (d j : Nat), j + d = N.toNat →
    Ev (fun k => graph_Parts.l0 k (nbRows N.toNat l) (List.replicate j (-1) ++ List.replicate d 0) (N.toNat : Int) (j : Int)) (repS N.toNat l)
  | 0, j, h => by
    have hj : j = N.toNat := by omega
    subst hj
    have inv : Inv1 N.toNat l 0 (List.replicate N.toNat (-1)) := ⟨by simp, fun w hw hlt => by omega, fun w hw _ => by simp⟩
    refine Ev.step (fun k => ?_) (parts_l1 N l hl hc N.toNat 0 _ (by omega) inv)
    simp only [graph_Parts.l0]
    rw [if_neg (by omega)]
    simp
  | d + 1, j, h => by
    obtain ⟨h0, h1, _⟩ := chk_ok hc
    refine Ev.step (fun k => ?_) (parts_l0 N l hl hc d (j + 1) (by omega))
    simp only [graph_Parts.l0]
    rw [if_pos (by omega), if_pos (by omega), if_pos (by simp; omega), wrap_succ (by omega), show ((j : Int)).toNat = j by omega, List.set_append_right _ _ (by simp)]
    have e2 : List.replicate (j + 1) (-1 : Int) = List.replicate j (-1) ++ [-1] := List.replicate_succ'
    rw [e2]
    simp [List.replicate_succ]
theorem graph_Parts.ev (N : Int) (l : List S40) (hl : l.length < 100000000000) : Ev (fun k => graph_Parts.f k N l) (partsS N l) := by
  unfold graph_Parts.f
  refine Ev.bind (graph_Neighbours.ev N l (by omega)) ?_
  unfold neighS partsS
  by_cases hc : chk N l = 0
  · obtain ⟨h0, h1, _⟩ := chk_ok hc
    simp only [if_pos hc, nbRows_length]
    simp only [show (0 : Int) ≤ (N.toNat : Int) by omega, if_true, show ((N.toNat : Int)).toNat = N.toNat by omega, show N.toNat ≤ 35184372088832 by omega, Option.bind_some, List.length_replicate]
    exact parts_l0 N l hl hc N.toNat 0 (by omega)
  · simp only [if_neg hc]
    refine Ev.step (r := ([] : List Int)) (f := fun k => graph_Parts.l1 k [] [] 0 0) (fun k => ?_) ?_
    · simp [graph_Parts.l0]
    · exact Ev.step1 fun k => by simp [graph_Parts.l1]

end Go.Proofs.Ytnnknbghfbjcnaa.Print
