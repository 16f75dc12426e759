/- Memory that stands while other memory changes: rows that are only read; how elimination begins. -/
import Derived.Test.YtcfeehaoeaoegaaHKPure
import Derived.Test.YtcfeehaoeaoegaaHP37c
namespace Go.Proofs.Ytcfeehaoeaoegaa.Print
open Go.RowKit Go.Proofs.YtcfeehaoeaoegaaW.PrintWords Go.Proofs.YtcfeehaoeaoegaaW.PrintLast Go.Proofs.YtcfeehaoeaoegaaW.PrintMore
set_option linter.unusedVariables false
set_option linter.unusedSimpArgs false

/-- Between b1 and b2 nothing has changed. -/
def Agree (b1 b2 : Nat) (w W : World) : Prop := ∀ k, b1 ≤ k → k < b2 → W.heap[k]? = w.heap[k]?
theorem near_row {w : World} {b1 : Nat} {An : Option Addr} {cn : Nat} {near : List (List Int)} (hs : Kd.S (Kd.slice 3 (Kd.int .i64)) 25 w b1 (fun _ => True) (.slice An near.length cn) near) {v : Nat} (hv : v < near.length) :
    ∃ ad Ai xc, An = some ad ∧ (near.getD v []).length ≤ xc ∧ ∀ W, Agree b1 w.heap.size w W → W.cell? (ad.add v) = some (.slice Ai (near.getD v []).length xc) ∧ Kd.C (Kd.int .i64) W Ai (near.getD v []).length (near.getD v []) := by
  obtain ⟨g, cap, he, hb, hlt, cells, hcells⟩ := Kd.S_form hs (by omega)
  injection he with he1 _ he3
  subst he1 he3
  obtain ⟨c, hcl, hM, hcc⟩ := Kd.S_get (Kd.S_bound hs) [] (v : Int) (by omega) (by omega)
  obtain ⟨vx, rfl, hr⟩ := hM
  obtain ⟨Ai, xc, rfl⟩ := Kd.R_slice hr
  simp only [Int.toNat_natCast] at hr hcc
  have hc1 := hcc 0 _ rfl
  rw [show (Kd.slice 3 (Kd.int .i64)).sz = 1 from rfl, Nat.mul_one, Nat.add_zero] at hc1
  refine ⟨⟨g, 0, none⟩, Ai, xc, rfl, (Kd.R_reads' hr).2.1, fun W hW => ⟨?_, ?_⟩⟩
  · rw [← hc1]
    have h2 : (⟨g, 0, none⟩ : Addr).add v = ⟨g, 0 + v, none⟩ := by rw [Addr.add_lit]
    rw [h2]
    unfold World.cell?
    rw [hW g hb hlt]
  · exact (Kd.R_reads' (Kd.R_move hr (w1 := W) (fun k hk => hW k hk.1.2.1 hk.1.2.2.1))).2.2
theorem own_W {w : World} {b1 : Nat} {A : Option Addr} {c : Nat} {l : List Int} (h : Kd.R (Kd.int .i64) 3 w b1 (fun _ => True) (.slice A l.length c) l) : ∀ W, Agree b1 w.heap.size w W → Kd.C (Kd.int .i64) W A l.length l := fun W hW =>
  (Kd.R_reads' (Kd.R_move (Kd.R_bound h) (w1 := W) (fun k hk => hW k hk.2.1 hk.2.2.1))).2.2
theorem nb_good {n : Nat} {arcs : List S38} (hc : chk (n : Int) arcs = 0) (v : Nat) : (∀ x ∈ (nbRows n arcs).getD v [], 0 ≤ x ∧ x < (n : Int)) ∧ ((nbRows n arcs).getD v []).length ≤ n := by
  by_cases hv : v < n
  · have h1 : (nbRows n arcs).getD v [] = nbS arcs (v : Int) := by
      rw [List.getD_eq_getElem?_getD, List.getElem?_eq_getElem (by rw [nbRows_length]; exact hv), Option.getD_some, nbRows_get]
    rw [h1]
    have h2 : ∀ x ∈ nbS arcs (v : Int), 0 ≤ x ∧ x < (n : Int) := fun x hx => by
      obtain ⟨y, rfl, hy⟩ := nbS_nat hc hx
      rw [Int.toNat_natCast] at hy
      omega
    exact ⟨h2, inc_len_n (inc_setOf _) h2⟩
  · have h1 : (nbRows n arcs).getD v [] = [] := by
      rw [List.getD_eq_getElem?_getD, List.getElem?_eq_none (by rw [nbRows_length]; omega)]
      rfl
    rw [h1]
    simp
theorem EIs.start {w : World} {base p : Nat} {o : Tags} {n : Nat} {gv ov rv ev : Value} {mb Bu cu Bd cd : Nat} {vu vd : Nat → Value} {arcs : List S38} {L R : List Int} {S : HSt} (h : HierIs w base p o n gv ov rv ev mb Bu cu Bd cd vu vd S) (hr : RIs w base o gv ov rv arcs L R) :
    ∃ o2, (∀ k, w.heap.size + 1 ≤ k → o2 k = (10, 0)) ∧ (∀ k, k < w.heap.size → o2 k = o k) ∧ EIs (w.alloc (.cells (nilRows n) 25 (0, 0))) base p w.heap.size o2 n gv ov rv ev mb Bu cu Bd cd vu vd (fun _ => .slice none 0 0) arcs L R (List.replicate n []) S := by
  have hb : Below w.heap.size w (w.alloc (.cells (nilRows n) 25 (0, 0))) := (Below.refl _ _).alloc (Nat.le_refl _) _
  refine ⟨fun k => if w.heap.size + 1 ≤ k then (10, 0) else tagPut o w.heap.size (1, 0) k, fun k hk => if_pos hk, fun k hk => ?_, ?_⟩
  · show (if w.heap.size + 1 ≤ k then (10, 0) else tagPut o w.heap.size (1, 0) k) = o k
    rw [if_neg (by omega)]
    unfold tagPut
    rw [if_neg (by omega)]
  · have ho : ∀ k, k < w.heap.size → (fun k => if w.heap.size + 1 ≤ k then ((10, 0) : Nat × Nat) else tagPut o w.heap.size (1, 0) k) k = o k := fun k hk => by
      show (if w.heap.size + 1 ≤ k then (10, 0) else tagPut o w.heap.size (1, 0) k) = o k
      rw [if_neg (by omega)]
      unfold tagPut
      rw [if_neg (by omega)]
    have h2 := (h.retag ho).below hb
    have h3 : RIs w base _ gv ov rv arcs L R := hr.retag ho
    exact ⟨h2, RowsIs.made (heap_alloc_new w _) (by
      show (if w.heap.size + 1 ≤ w.heap.size then (10, 0) else tagPut o w.heap.size (1, 0) w.heap.size) = (1, 0)
      rw [if_neg (by omega)]
      unfold tagPut
      rw [if_pos rfl]) h.base_le, h3.move (fun k hk _ _ => hb.block k hk)⟩
/-- New tags for what comes. -/
theorem EIs.fresh {w : World} {base p Bh : Nat} {o : Tags} {n : Nat} {gv ov rv ev : Value} {mb Bu cu Bd cd : Nat} {vu vd vh : Nat → Value} {arcs : List S38} {L R : List Int} {H : List (List Int)} {S : HSt} (h : EIs w base p Bh o n gv ov rv ev mb Bu cu Bd cd vu vd vh arcs L R H S) :
    ∃ o2, (∀ k, w.heap.size ≤ k → o2 k = (10, 0)) ∧ (∀ k, k < w.heap.size → o2 k = o k) ∧ EIs w base p Bh o2 n gv ov rv ev mb Bu cu Bd cd vu vd vh arcs L R H S := by
  refine ⟨fun k => if w.heap.size ≤ k then (10, 0) else o k, fun k hk => if_pos hk, fun k hk => ?_, h.retag (fun k hk => ?_)⟩
  · show (if w.heap.size ≤ k then (10, 0) else o k) = o k
    rw [if_neg (by omega)]
  · show (if w.heap.size ≤ k then (10, 0) else o k) = o k
    rw [if_neg (by omega)]
theorem h2step_good {n c c' : Nat} {L : List Int} {r i : Nat} {l : List Int} {st : List (List Int) × HSt} (h : HGood n c st.1) (hs : SGood n c' st.2) (hl : ∀ x ∈ l, 0 ≤ x ∧ x < (n : Int)) (hi : i < l.length) : HGood n (c + 1) (h2step L r l i st).1 ∧ SGood n (c' + 1) (h2step L r l i st).2 := by
  have hm : ∀ j, j < l.length → 0 ≤ l.getD j 0 ∧ l.getD j 0 < (n : Int) := fun j hj => hl _ (by
    rw [List.getD_eq_getElem?_getD, List.getElem?_eq_getElem hj]
    exact List.getElem_mem hj)
  refine ⟨?_, hs.add⟩
  show HGood n (c + 1) (if 0 < i then hpush st.1 (l.getD 0 0).toNat (l.getD i 0) else st.1)
  split
  · have := hm 0 (by omega)
    exact h.push (by omega) (hm i hi)
  · exact h.le (by omega)
end Go.Proofs.Ytcfeehaoeaoegaa.Print
