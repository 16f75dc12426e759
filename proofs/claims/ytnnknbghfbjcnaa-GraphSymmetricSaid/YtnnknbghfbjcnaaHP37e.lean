/- Parts of a graph, the rest: the fills, the outer walk, the reference's rounds; GraphVertices. -/
import Derived.Test.YtnnknbghfbjcnaaHP37d
namespace Go.Proofs.Ytnnknbghfbjcnaa.Print
open Go.RowKit Go.Proofs.YtnnknbghfbjcnaaW.PrintWords Go.Proofs.YtnnknbghfbjcnaaW.PrintLast Go.Proofs.YtnnknbghfbjcnaaW.PrintMore
set_option linter.unusedVariables false
set_option linter.unusedSimpArgs false

theorem unl_le (o : List Int) : unl o ≤ o.length := List.length_filter_le ..
theorem Inv1.start {n : Nat} {l : List S40} {N : Int} (hc : chk N l = 0) (hn : n = N.toNat) {v : Nat} (hv : v < n) {o : List Int} (h : Inv1 n l v o) (hr : rep (Adj l) v = v) :
    Inv2 n l v [v] none (o.set v (v : Int)) := by
  have hlen : (o.set v (v : Int)).length = o.length := List.length_set
  have hl := h.len
  refine ⟨by omega, fun w hw hlt => ?_, fun w hw hlt => ?_, fun w hw he => ?_, ⟨by omega, by rw [List.getElem_set_self]⟩, fun s hs => ?_, fun p hp => (by cases hp), fun w hw hrw how => ?_⟩
  · rw [List.getElem_set_ne (by intro e; subst e; omega)]
    exact h.low w (by omega) hlt
  · rw [List.getElem_set_ne (by intro e; subst e; omega)]
    exact h.high w (by omega) (by omega)
  · rw [List.getElem_set]
    split
    · exact .inr rfl
    · exact .inl (h.high w (by omega) (by omega))
  · rw [List.mem_singleton] at hs
    subst hs
    exact ⟨hv, hr⟩
  · by_cases e : v = w
    · subst e
      exact .inl (List.mem_singleton.2 rfl)
    · rw [List.getElem_set_ne e, h.high w (by omega) (by omega)] at how
      omega
theorem Inv1.skip {n : Nat} {l : List S40} {v : Nat} {o : List Int} (h : Inv1 n l v o) (hr : rep (Adj l) v < v) : Inv1 n l (v + 1) o := by
  refine ⟨h.len, fun w hw hlt => ?_, fun w hw hlt => h.high w hw (by omega)⟩
  rcases Nat.lt_or_ge (rep (Adj l) w) v with h1 | h1
  · exact h.low w hw h1
  · have he : rep (Adj l) w = v := by omega
    have := rep_rep (@Adj.symm l) w
    rw [he] at this
    omega
theorem Inv1.last {n : Nat} {l : List S40} {o : List Int} (h : Inv1 n l n o) : o = repS n l := by
  have hl := h.len
  refine List.ext_getElem (by simp [repS, hl]) fun i h1 h2 => ?_
  rw [h.low i h1 (by have := rep_le_self (Adj l) i; omega)]
  simp [repS]
theorem parts_l1 (N : Int) (l : List S40) (hl : l.length < 100000000000) (hc : chk N l = 0) : ∀ (d v : Nat) (o : List Int), v + d = N.toNat → Inv1 N.toNat l v o →
    Ev (fun k => graph_Parts.l1 k (nbRows N.toNat l) o (N.toNat : Int) (v : Int)) (repS N.toNat l)
  | 0, v, o, h, inv => by
    have hv : v = N.toNat := by omega
    subst hv
    refine Ev.step1 fun k => ?_
    simp only [graph_Parts.l1]
    rw [if_neg (by omega), inv.last]
  | d + 1, v, o, h, inv => by
    obtain ⟨h0, h1, _⟩ := chk_ok hc
    have hv : v < N.toNat := by omega
    have hlen := inv.len
    have hvo : v < o.length := by omega
    rcases Nat.lt_or_ge (rep (Adj l) v) v with hlt | hge
    · refine Ev.step (fun k => ?_) (parts_l1 N l hl hc d (v + 1) o (by omega) (inv.skip hlt))
      simp only [graph_Parts.l1]
      rw [if_pos (by omega), if_pos (by omega), if_pos (by omega), rd_int o v hvo, inv.low v hvo hlt, if_pos (by omega), wrap_succ (by omega)]
    · have hrv : rep (Adj l) v = v := Nat.le_antisymm (rep_le_self _ _) hge
      have hov := inv.high v hvo (by omega)
      have hu := unl_set o v (v : Int) hvo (by omega) (by omega)
      have hul := unl_le o
      refine Ev.step (fun k => ?_) (parts_l2 N l hl hc v hv (repS N.toNat l) (fun o' inv' => parts_l1 N l hl hc d (v + 1) o' (by omega) inv') (2 * unl (o.set v (v : Int)) + 1) [v] (o.set v (v : Int)) (by simp) (by simp; omega) (inv.start hc rfl hv hrv))
      simp only [graph_Parts.l1]
      rw [if_pos (by omega), if_pos (by omega), if_pos (by omega), rd_int o v hvo, hov, if_neg (by omega), show ((v : Int)).toNat = v by omega]
      rfl
theorem parts_l0 (N : Int) (l : List S40) (hl : l.length < 100000000000) (hc : chk N l = 0) : ∀ (d j : Nat), j + d = N.toNat →
    Ev (fun k => graph_Parts.l0 k (nbRows N.toNat l) (List.replicate j (-1) ++ List.replicate d 0) (N.toNat : Int) (j : Int)) (repS N.toNat l)
  | 0, j, h => by
    have hj : j = N.toNat := by omega
    subst hj
    have inv : Inv1 N.toNat l 0 (List.replicate N.toNat (-1)) := ⟨by simp, fun w hw hlt => by omega, fun w hw _ => by simp⟩
    refine Ev.step (fun k => ?_) (parts_l1 N l hl hc N.toNat 0 _ (by omega) inv)
    simp only [graph_Parts.l0]
    rw [if_neg (by omega)]
    simp
  | d + 1, j, h => by
    obtain ⟨h0, h1, _⟩ := chk_ok hc
    refine Ev.step (fun k => ?_) (parts_l0 N l hl hc d (j + 1) (by omega))
    simp only [graph_Parts.l0]
    rw [if_pos (by omega), if_pos (by omega), if_pos (by simp; omega), wrap_succ (by omega), show ((j : Int)).toNat = j by omega, List.set_append_right _ _ (by simp)]
    have e2 : List.replicate (j + 1) (-1 : Int) = List.replicate j (-1) ++ [-1] := List.replicate_succ'
    rw [e2]
    simp [List.replicate_succ]
theorem graph_Parts.ev (N : Int) (l : List S40) (hl : l.length < 100000000000) : Ev (fun k => graph_Parts.f k N l) (partsS N l) := by
  unfold graph_Parts.f
  refine Ev.bind (graph_Neighbours.ev N l (by omega)) ?_
  unfold neighS partsS
  by_cases hc : chk N l = 0
  · obtain ⟨h0, h1, _⟩ := chk_ok hc
    simp only [if_pos hc, nbRows_length]
    simp only [show (0 : Int) ≤ (N.toNat : Int) by omega, if_true, show ((N.toNat : Int)).toNat = N.toNat by omega, show N.toNat ≤ 35184372088832 by omega, Option.bind_some, List.length_replicate]
    exact parts_l0 N l hl hc N.toNat 0 (by omega)
  · simp only [if_neg hc]
    refine Ev.step (r := ([] : List Int)) (f := fun k => graph_Parts.l1 k [] [] 0 0) (fun k => ?_) ?_
    · simp [graph_Parts.l0]
    · exact Ev.step1 fun k => by simp [graph_Parts.l1]

/-! ### The reference's rounds -/
theorem mn_le_left (a b : Int) : mn a b ≤ a := by unfold mn; split <;> omega
theorem mn_le_right (a b : Int) : mn a b ≤ b := by unfold mn; split <;> omega
theorem mn_or (a b : Int) : mn a b = a ∨ mn a b = b := by unfold mn; split <;> simp
structure Rnd (n : Nat) (l : List S40) (t : Nat) (j : Nat) (o : List Int) : Prop where
  len : o.length = n
  con : ∀ (w : Nat) (h : w < o.length), ∃ u : Nat, o[w] = (u : Int) ∧ Conn (Adj l) u w
  le : ∀ (w : Nat) (h : w < o.length) (u : Nat), Reach (Adj l) u t w → o[w] ≤ (u : Int)
  arc : ∀ (i : Nat) (hi : i < l.length), i < j → ∀ (a b : Nat) (ha : a < o.length) (hb : b < o.length), l[i].f0 = (a : Int) → l[i].f1 = (b : Int) →
    ∀ u : Nat, (Reach (Adj l) u t a → o[b] ≤ (u : Int)) ∧ (Reach (Adj l) u t b → o[a] ≤ (u : Int))
theorem Rnd.next {n : Nat} {l : List S40} {N : Int} (hc : chk N l = 0) (hn : n = N.toNat) {t : Nat} {o : List Int} (h : Rnd n l t l.length o) : Rnd n l (t + 1) 0 o := by
  have hl := h.len
  refine ⟨h.len, h.con, fun w hw u hr => ?_, fun i hi hi0 => (by omega)⟩
  rcases hr with hr | ⟨x, hr, ha⟩
  · exact h.le w hw u hr
  · have hx := Adj.lt hc (Adj.symm _ _ ha)
    obtain ⟨_, a, ha, hcc⟩ := ha
    obtain ⟨i, hi, rfl⟩ := List.mem_iff_getElem.1 ha
    rcases hcc with ⟨e1, e2⟩ | ⟨e1, e2⟩
    · exact (h.arc i hi hi x w (by omega) hw e1 e2 u).1 hr
    · exact (h.arc i hi hi w x hw (by omega) e2 e1 u).2 hr
theorem Rnd.arcstep {n : Nat} {l : List S40} {t j a b : Nat} {o : List Int} (h : Rnd n l t j o) (hj : j < l.length) (ha : a < o.length) (hb : b < o.length) (ea : l[j].f0 = (a : Int)) (eb : l[j].f1 = (b : Int)) :
    Rnd n l t (j + 1) ((o.set a (mn o[a] o[b])).set b (mn o[a] o[b])) := by
  have hs := @Adj.symm l
  have hlen : ((o.set a (mn o[a] o[b])).set b (mn o[a] o[b])).length = o.length := by simp
  have ml := mn_le_left o[a] o[b]
  have mr := mn_le_right o[a] o[b]
  have get : ∀ (w : Nat) (hw : w < o.length) (hw' : w < ((o.set a (mn o[a] o[b])).set b (mn o[a] o[b])).length), ((o.set a (mn o[a] o[b])).set b (mn o[a] o[b]))[w] = if b = w ∨ a = w then mn o[a] o[b] else o[w] := by
    intro w hw hw'
    rw [List.getElem_set, List.getElem_set]
    by_cases h1 : b = w
    · simp [h1]
    · by_cases h2 : a = w <;> simp [h1, h2]
  have low : ∀ (w : Nat) (hw : w < o.length) (hw' : w < ((o.set a (mn o[a] o[b])).set b (mn o[a] o[b])).length), ((o.set a (mn o[a] o[b])).set b (mn o[a] o[b]))[w] ≤ o[w] := by
    intro w hw hw'
    rw [get w hw hw']
    split
    · rename_i e
      rcases e with e | e <;> subst e <;> assumption
    · exact Int.le_refl _
  have cab : Conn (Adj l) a b := by
    by_cases e : a = b
    · subst e
      exact Conn.refl _
    · exact Conn.one ⟨e, l[j], List.getElem_mem hj, .inl ⟨ea, eb⟩⟩
  refine ⟨by rw [hlen]; exact h.len, fun w hw => ?_, fun w hw u hr => ?_, fun i hi hij p q hp hq ep eq u => ?_⟩
  · rw [get w (by omega) hw]
    split
    · rename_i e
      have caw : Conn (Adj l) a w := by
        rcases e with e | e
        · subst e; exact cab
        · subst e; exact Conn.refl _
      have cbw : Conn (Adj l) b w := (cab.symm hs).trans caw
      rcases mn_or o[a] o[b] with e2 | e2
      · rw [e2]
        obtain ⟨u, hu, hcu⟩ := h.con a ha
        exact ⟨u, hu, hcu.trans caw⟩
      · rw [e2]
        obtain ⟨u, hu, hcu⟩ := h.con b hb
        exact ⟨u, hu, hcu.trans cbw⟩
    · exact h.con w (by omega)
  · exact Int.le_trans (low w (by omega) hw) (h.le w (by omega) u hr)
  · by_cases e : i = j
    · subst e
      have : p = a := by omega
      subst this
      have : q = b := by omega
      subst this
      rw [get p ha hp, get q hb hq, if_pos (.inl rfl), if_pos (.inr rfl)]
      exact ⟨fun hr => Int.le_trans ml (h.le p ha u hr), fun hr => Int.le_trans mr (h.le q hb u hr)⟩
    · have h2 := h.arc i hi (by omega) p q (by omega) (by omega) ep eq u
      exact ⟨fun hr => Int.le_trans (low q (by omega) hq) (h2.1 hr), fun hr => Int.le_trans (low p (by omega) hp) (h2.2 hr)⟩
theorem Rnd.last {n : Nat} {l : List S40} {N : Int} (hc : chk N l = 0) (hn : n = N.toNat) {o : List Int} (h : Rnd n l n 0 o) : o = repS n l := by
  have hl := h.len
  refine List.ext_getElem (by simp [repS, hl]) fun w h1 h2 => ?_
  have hrw := rep_le_self (Adj l) w
  have hR : Reach (Adj l) (rep (Adj l) w) n w := by
    have := reach_all (n := n) (fun x w h => by have := Adj.lt hc h; omega) (show rep (Adj l) w < n by omega) (rep_conn (Adj l) w)
    have := this.more 1
    rwa [show n - 1 + 1 = n by omega] at this
  have hle := h.le w h1 _ hR
  obtain ⟨u, hu, hcu⟩ := h.con w h1
  have := rep_le hcu
  rw [hu] at hle ⊢
  simp only [repS, List.getElem_map, List.getElem_range]
  omega
theorem rparts_l1 (N : Int) (l : List S40) (hl : l.length < 100000000000) (hc : chk N l = 0) : ∀ (d t : Nat) (o : List Int), t + d = N.toNat → Rnd N.toNat l t 0 o →
    Ev (fun k => mapmakerref37_Parts.l1 k o (t : Int) N l) (repS N.toNat l)
  | 0, t, o, h, inv => by
    obtain ⟨h0, h1, _⟩ := chk_ok hc
    have ht : t = N.toNat := by omega
    subst ht
    refine Ev.step1 fun k => ?_
    simp only [mapmakerref37_Parts.l1]
    rw [if_neg (by omega), inv.last hc rfl]
  | d + 1, t, o, h, inv => by
    obtain ⟨h0, h1, har⟩ := chk_ok hc
    have inner : ∀ (e j : Nat) (o : List Int), j + e = l.length → Rnd N.toNat l t j o → Ev (fun k => mapmakerref37_Parts.l2 k o (t : Int) (j : Int) N l) (repS N.toNat l) := by
      intro e
      induction e with
      | zero =>
        intro j o hj inv
        have hj' : j = l.length := by omega
        subst hj'
        refine Ev.step (fun k => ?_) (rparts_l1 N l hl hc d (t + 1) o (by omega) (inv.next hc rfl))
        simp only [mapmakerref37_Parts.l2]
        rw [if_neg (by omega), wrap_succ (by omega)]
      | succ e ih =>
        intro j o hj inv
        have hj' : j < l.length := by omega
        have hlen := inv.len
        obtain ⟨f0, f1, f2, f3⟩ := har j hj'
        obtain ⟨a, ha⟩ : ∃ a : Nat, l[j].f0 = (a : Int) := ⟨l[j].f0.toNat, by omega⟩
        obtain ⟨b, hb⟩ : ∃ b : Nat, l[j].f1 = (b : Int) := ⟨l[j].f1.toNat, by omega⟩
        have hao : a < o.length := by omega
        have hbo : b < o.length := by omega
        refine Ev.step (fun k => ?_) (ih (j + 1) _ (by omega) (inv.arcstep hj' hao hbo ha hb))
        simp only [mapmakerref37_Parts.l2]
        rw [rd_arc l j hj', ha, hb, rd_int o a hao, rd_int o b hbo, if_pos (by omega), if_pos (by omega), if_pos (by omega), if_pos (by omega), if_pos (by omega), if_pos (by omega), wrap_succ (by omega), show ((a : Int)).toNat = a by omega, show ((b : Int)).toNat = b by omega]
    refine Ev.step (fun k => ?_) (inner l.length 0 o (by omega) inv)
    simp only [mapmakerref37_Parts.l1]
    rw [if_pos (by omega)]
    rfl
theorem rparts_l0 (N : Int) (l : List S40) (hl : l.length < 100000000000) (hc : chk N l = 0) : ∀ (d j : Nat), j + d = N.toNat →
    Ev (fun k => mapmakerref37_Parts.l0 k ((List.range j).map fun (v : Nat) => (v : Int)) (j : Int) N l) (repS N.toNat l)
  | 0, j, h => by
    obtain ⟨h0, h1, _⟩ := chk_ok hc
    have hj : j = N.toNat := by omega
    subst hj
    have inv : Rnd N.toNat l 0 0 ((List.range N.toNat).map fun (v : Nat) => (v : Int)) := by
      refine ⟨by simp, fun w hw => ⟨w, by simp, Conn.refl _⟩, fun w hw u hr => ?_, fun i hi hi0 => (by omega)⟩
      have : w = u := hr
      subst this
      simp
    refine Ev.step (fun k => ?_) (rparts_l1 N l hl hc N.toNat 0 _ (by omega) inv)
    simp only [mapmakerref37_Parts.l0]
    rw [if_neg (by omega)]
    rfl
  | d + 1, j, h => by
    obtain ⟨h0, h1, _⟩ := chk_ok hc
    refine Ev.step (fun k => ?_) (rparts_l0 N l hl hc d (j + 1) (by omega))
    simp only [mapmakerref37_Parts.l0]
    rw [if_pos (by omega), if_pos (by simp; omega), wrap_succ (by omega)]
    simp [List.range_succ]
theorem mapmakerref37_Parts.ev (N : Int) (l : List S40) (hl : l.length < 100000000000) : Ev (fun k => mapmakerref37_Parts.f k N l) (partsS N l) := by
  unfold mapmakerref37_Parts.f partsS
  refine Ev.bind (mapmakerref37_Check.ev N l (by omega)) ?_
  by_cases hc : chk N l = 0
  · obtain ⟨h0, h1, _⟩ := chk_ok hc
    simp only [if_pos hc]
    exact rparts_l0 N l hl hc N.toNat 0 (by omega)
  · simp only [if_neg hc]
    exact Ev.now _
theorem partsS_small (N : Int) (l : List S40) : (partsS N l).length < 1000000000000 := by
  unfold partsS
  split
  · rename_i h
    obtain ⟨h0, h1, _⟩ := chk_ok h
    simp [repS]
    omega
  · simp
end Go.Proofs.Ytnnknbghfbjcnaa.Print
