/- Several texts of this claim in one: HKPure, HKElimN. -/
import Derived.Test.YtfnophaiamkmpaaM6
import Derived.Test.YtfnophaiamkmpaaM0
import Derived.Test.YtfnophaiamkmpaaM5
namespace Go.Proofs.Ytfnophaiamkmpaa.Print
open Go.RowKit Go.Proofs.YtfnophaiamkmpaaW.PrintWords Go.Proofs.YtfnophaiamkmpaaW.PrintLast Go.Proofs.YtfnophaiamkmpaaW.PrintMore
set_option linter.unusedVariables false
set_option linter.unusedSimpArgs false
def hpush (H : List (List Int)) (i : Nat) (x : Int) : List (List Int) := H.set i (H.getD i [] ++ [x])
def h1step (R : List Int) (v : Nat) (H : List (List Int)) (u : Int) : List (List Int) := if R.getD u.toNat 0 > R.getD v 0 then hpush H (R.getD v 0).toNat (R.getD u.toNat 0) else H
def h1row (R : List Int) (v : Nat) (H : List (List Int)) (l : List Int) : List (List Int) := l.foldl (h1step R v) H
def h1upto (R : List Int) (near : List (List Int)) (n : Nat) : Nat → List (List Int)
 | 0 => List.replicate n []
 | v + 1 => h1row R v (h1upto R near n v) (near.getD v [])
def h2step (L : List Int) (r : Nat) (l : List Int) (i : Nat) (st : List (List Int) × HSt) : List (List Int) × HSt :=
 (if 0 < i then hpush st.1 (l.getD 0 0).toNat (l.getD i 0) else st.1, hadd st.2 (L.getD r 0).toNat (L.getD (l.getD i 0).toNat 0).toNat)
def h2row (L : List Int) (r : Nat) (l : List Int) (st : List (List Int) × HSt) : Nat → List (List Int) × HSt
 | 0 => st
 | i + 1 => h2step L r l i (h2row L r l st i)
def h2upto (L : List Int) (st : List (List Int) × HSt) : Nat → List (List Int) × HSt
 | 0 => st
 | r + 1 => h2row L r (setOf ((h2upto L st r).1.getD r [])) (h2upto L st r) (setOf ((h2upto L st r).1.getD r [])).length
def elimS (n : Nat) (L R : List Int) (near : List (List Int)) (S : HSt) : HSt := (h2upto L (h1upto R near n n, S) n).2
structure HGood (n c : Nat) (H : List (List Int)) : Prop where
 len : H.length = n
 rng : ∀ r x, x ∈ H.getD r [] → 0 ≤ x ∧ x < (n : Int)
 cap : ∀ r, (H.getD r []).length ≤ c
theorem getD_set_list {H : List (List Int)} {i r : Nat} {x : List Int} : (H.set i x).getD r [] = if i = r ∧ i < H.length then x else H.getD r [] := by
 rw [List.getD_eq_getElem?_getD, List.getElem?_set]
 by_cases h : i = r
 ·subst h
  by_cases h2 : i < H.length
  ·simp [h2]
  ·simp [h2]
 ·simp [h]
theorem getD_hpush {H : List (List Int)} {i r : Nat} {x : Int} (hi : i < H.length) : (hpush H i x).getD r [] = if i = r then H.getD i [] ++ [x] else H.getD r [] := by
 unfold hpush
 rw [getD_set_list]
 simp [hi]
theorem HGood.push {n c : Nat} {H : List (List Int)} (h : HGood n c H) {i : Nat} (hi : i < n) {x : Int} (hx : 0 ≤ x ∧ x < (n : Int)) : HGood n (c + 1) (hpush H i x) := by
 have hil : i < H.length := by rw [h.len]; exact hi
 refine ⟨by unfold hpush; rw [List.length_set]; exact h.len, fun r y hy => ?_, fun r => ?_⟩
 ·rw [getD_hpush hil] at hy
  by_cases e : i = r
  ·rw [if_pos e, List.mem_append, List.mem_singleton] at hy
   rcases hy with hy | rfl
   ·exact h.rng i y hy
   ·exact hx
  ·rw [if_neg e] at hy
   exact h.rng r y hy
 ·rw [getD_hpush hil]
  by_cases e : i = r
  ·rw [if_pos e, List.length_append]
   have := h.cap i
   rw [List.length_singleton]
   omega
  ·rw [if_neg e]
   have := h.cap r
   omega
theorem HGood.le {n c c' : Nat} {H : List (List Int)} (h : HGood n c H) (hc : c ≤ c') : HGood n c' H := ⟨h.len, h.rng, fun r => Nat.le_trans (h.cap r) hc⟩
theorem HGood.nils (n : Nat) : HGood n 0 (List.replicate n []) := by
 refine ⟨by simp, fun r x hx => ?_, fun r => ?_⟩
 ·by_cases h : r < n
  ·simp [h] at hx
  ·simp [h] at hx
 ·by_cases h : r < n
  ·simp [h]
  ·simp [h]
structure SGood (n c : Nat) (S : HSt) : Prop where
 lenu : S.ups.length = n
 lend : S.downs.length = n
 len : S.edges.length ≤ c
 capu : ∀ r, (S.ups.getD r []).length ≤ c
 capd : ∀ r, (S.downs.getD r []).length ≤ c
theorem SGood.add {n c : Nat} {S : HSt} (h : SGood n c S) {u v : Nat} : SGood n (c + 1) (hadd S u v) := by
 refine ⟨by simp [hadd, h.lenu], by simp [hadd, h.lend], ?_, fun r => ?_, fun r => ?_⟩
 ·show (S.edges ++ [_]).length ≤ c + 1
  have := h.len
  simp
  omega
 ·show ((S.ups.set u _).getD r []).length ≤ c + 1
  rw [getD_set_list]
  have h1 := h.capu u
  have h2 := h.capu r
  split
  ·rw [List.length_append, List.length_singleton]
   omega
  ·omega
 ·show ((S.downs.set v _).getD r []).length ≤ c + 1
  rw [getD_set_list]
  have h1 := h.capd v
  have h2 := h.capd r
  split
  ·rw [List.length_append, List.length_singleton]
   omega
  ·omega
theorem SGood.le {n c c' : Nat} {S : HSt} (h : SGood n c S) (hc : c ≤ c') : SGood n c' S := ⟨h.lenu, h.lend, Nat.le_trans h.len hc, fun r => Nat.le_trans (h.capu r) hc, fun r => Nat.le_trans (h.capd r) hc⟩
theorem foldl_take_succ {α : Type} (f : α → Int → α) (a : α) {l : List Int} {k : Nat} (hk : k < l.length) : (l.take (k + 1)).foldl f a = f ((l.take k).foldl f a) (l.getD k 0) := by
 have h1 : l.take (k + 1) = l.take k ++ [l.getD k 0] := by
  rw [List.take_add_one]
  simp [hk]
 rw [h1, List.foldl_append]
 rfl
theorem inc_len : ∀ {l : List Int} {lo hi : Int}, Inc l → (∀ x ∈ l, lo ≤ x ∧ x < hi) → l.length ≤ (hi - lo).toNat
 | [], _, _, _, _ => by simp
 | x :: t, lo, hi, h, hr => by
  have h1 := hr x (by simp)
  have h2 : ∀ y ∈ t, x + 1 ≤ y ∧ y < hi := fun y hy => by
   have h3 := (List.pairwise_cons.1 h).1 y hy
   exact ⟨by omega, (hr y (by simp [hy])).2⟩
  have h3 := inc_len (List.pairwise_cons.1 h).2 h2
  rw [List.length_cons]
  omega
theorem inc_len_n {l : List Int} {n : Nat} (h : Inc l) (hr : ∀ x ∈ l, 0 ≤ x ∧ x < (n : Int)) : l.length ≤ n := by
 have := inc_len h hr
 omega
theorem h1step_good {n c : Nat} {R : List Int} {H : List (List Int)} (h : HGood n c H) (hR : ∀ v, v < n → 0 ≤ R.getD v 0 ∧ R.getD v 0 < (n : Int)) {v : Nat} (hv : v < n) {u : Int} (hu : 0 ≤ u ∧ u < (n : Int)) : HGood n (c + 1) (h1step R v H u) := by
 unfold h1step
 split
 ·exact h.push (by have := hR v hv; omega) (hR u.toNat (by omega))
 ·exact h.le (by omega)
structure RIs (w : World) (base : Nat) (o : Tags) (gv ov rv : Value) (arcs : List S58) (L R : List Int) : Prop where
 arc : Kd.R k58 58 w base (fun k => o k = (9, 0)) gv arcs
 ord : Kd.R (Kd.int .i64) 3 w base (fun k => o k = (7, 0)) ov L
 rnk : Kd.R (Kd.int .i64) 3 w base (fun k => o k = (8, 0)) rv R
structure EIs (w : World) (base p Bh : Nat) (o : Tags) (n : Nat) (gv ov rv ev : Value) (mb Bu cu Bd cd : Nat) (vu vd vh : Nat → Value) (arcs : List S58) (L R : List Int) (H : List (List Int)) (S : HSt) : Prop where
 hier : HierIs w base p o n gv ov rv ev mb Bu cu Bd cd vu vd S
 high : RowsIs w base Bh 1 o vh H
 red : RIs w base o gv ov rv arcs L R
section
variable {w w1 : World} {base p Bh : Nat} {o o' : Tags} {n : Nat} {gv ov rv ev : Value} {mb Bu cu Bd cd : Nat} {vu vd vh : Nat → Value} {arcs : List S58} {L R : List Int} {H : List (List Int)} {S : HSt}
theorem RIs.move (h : RIs w base o gv ov rv arcs L R) (hm : ∀ k, k < w.heap.size → 7 ≤ (o k).1 → (o k).1 ≤ 9 → w1.heap[k]? = w.heap[k]?) : RIs w1 base o gv ov rv arcs L R :=
 ⟨Kd.R_step h.arc (fun k hk hlt => hm k hlt (by rw [hk]; decide) (by rw [hk]; decide)), Kd.R_step h.ord (fun k hk hlt => hm k hlt (by rw [hk]; decide) (by rw [hk]; decide)), Kd.R_step h.rnk (fun k hk hlt => hm k hlt (by rw [hk]; decide) (by rw [hk]; decide))⟩
theorem RIs.retag (h : RIs w base o gv ov rv arcs L R) (ho : ∀ k, k < w.heap.size → o' k = o k) : RIs w base o' gv ov rv arcs L R :=
 ⟨Kd.R_reok rfl h.arc (fun k hk => by have h1 := h.arc.1 k hk; show o' k = _; rw [ho k (Kd.R_lt h.arc k hk)]; exact h1), Kd.R_reok rfl h.ord (fun k hk => by have h1 := h.ord.1 k hk; show o' k = _; rw [ho k (Kd.R_lt h.ord k hk)]; exact h1),
  Kd.R_reok rfl h.rnk (fun k hk => by have h1 := h.rnk.1 k hk; show o' k = _; rw [ho k (Kd.R_lt h.rnk k hk)]; exact h1)⟩
theorem HierIs.retag (h : HierIs w base p o n gv ov rv ev mb Bu cu Bd cd vu vd S) (ho : ∀ k, k < w.heap.size → o' k = o k) : HierIs w base p o' n gv ov rv ev mb Bu cu Bd cd vu vd S := by
 obtain ⟨a1, a2, a3, a4, a5, a6, a7⟩ := h.re (w2 := w) (C := fun k => False) ho (Nat.le_refl _) (fun k hk hc => rfl)
 exact ⟨a1 (fun x => x), a2, a3 (fun _ _ x => x), a4 (fun x => x), a5, a6 (fun _ _ x => x), a7 (fun _ _ x => x), h.lenu, h.lend, h.plo, h.mlo⟩
theorem EIs.move (h : EIs w base p Bh o n gv ov rv ev mb Bu cu Bd cd vu vd vh arcs L R H S) (hs : w.heap.size ≤ w1.heap.size) (hm : ∀ k, k < w.heap.size → 1 ≤ (o k).1 → (o k).1 ≤ 9 → w1.heap[k]? = w.heap[k]?) : EIs w1 base p Bh o n gv ov rv ev mb Bu cu Bd cd vu vd vh arcs L R H S :=
 ⟨h.hier.keep hs (fun k hk h1 h2 => hm k hk (by omega) (by omega)), rows_move h.high hs (fun k hk ht => hm k hk (by omega) (by omega)), h.red.move (fun k hk h1 h2 => hm k hk (by omega) h2)⟩
theorem EIs.below (h : EIs w base p Bh o n gv ov rv ev mb Bu cu Bd cd vu vd vh arcs L R H S) (hb : Below w.heap.size w w1) : EIs w1 base p Bh o n gv ov rv ev mb Bu cu Bd cd vu vd vh arcs L R H S := h.move hb.size (fun k hk _ _ => hb.block k hk)
theorem EIs.drew (h : EIs w base p Bh o n gv ov rv ev mb Bu cu Bd cd vu vd vh arcs L R H S) : EIs w.drew base p Bh o n gv ov rv ev mb Bu cu Bd cd vu vd vh arcs L R H S := h.move (Nat.le_refl _) (fun _ _ _ _ => rfl)
theorem EIs.retag (h : EIs w base p Bh o n gv ov rv ev mb Bu cu Bd cd vu vd vh arcs L R H S) (ho : ∀ k, k < w.heap.size → o' k = o k) : EIs w base p Bh o' n gv ov rv ev mb Bu cu Bd cd vu vd vh arcs L R H S := ⟨h.hier.retag ho, h.high.retag ho, h.red.retag ho⟩
theorem EIs.put (h : EIs w base p Bh o n gv ov rv ev mb Bu cu Bd cd vu vd vh arcs L R H S) {i : Nat} (hi : i < H.length) {v1 : Value} {r1 : List Int} (hr : Kd.R (Kd.int .i64) 3 w1 base (fun _ => True) v1 r1) (hg : w.grownBy w1 (vh i).ownBlock)
  (hat : v1.ownBlock = (vh i).ownBlock ∨ ∃ b, v1.ownBlock = some b ∧ w.heap.size ≤ b) :
  ∃ o' vh', (∀ k, k < w.heap.size → o' k = o k) ∧ (∀ k, k < w.heap.size → (o k).1 ≠ 1 → (w1.setCell ⟨Bh, i, none⟩ v1).heap[k]? = w.heap[k]?) ∧ w.heap.size ≤ (w1.setCell ⟨Bh, i, none⟩ v1).heap.size ∧ EIs (w1.setCell ⟨Bh, i, none⟩ v1) base p Bh o' n gv ov rv ev mb Bu cu Bd cd vu vd vh' arcs L R (H.set i r1) S := by
 obtain ⟨o', ho1, ho2, h3⟩ := h.high.put hi hr hg hat
 have hm : ∀ k, k < w.heap.size → (o k).1 ≠ 1 → (w1.setCell ⟨Bh, i, none⟩ v1).heap[k]? = w.heap[k]? := fun k hk ht => by
  rw [Below.heap_setCell _ _ _ _ (fun e => ht (by rw [show k = Bh from e, h.high.own]))]
  exact hg.block k hk (fun e => ht (by rw [(h.high.row i hi).1 k e.symm]))
 have hs : w.heap.size ≤ (w1.setCell ⟨Bh, i, none⟩ v1).heap.size := by simp [World.setCell]; exact hg.size
 refine ⟨o', _, ho1, hm, hs, ?_, h3, ?_⟩
 ·have h4 := h.hier.keep (w1 := w1.setCell ⟨Bh, i, none⟩ v1) hs (fun k hk h1 h2 => hm k hk (by omega))
  obtain ⟨a1, a2, a3, a4, a5, a6, a7⟩ := h.hier.re (o' := o') (w2 := w1.setCell ⟨Bh, i, none⟩ v1) (C := fun k => (o k).1 = 1) ho1 hs (fun k hk hc => hm k hk hc)
  exact ⟨a1 (by rw [h.hier.ptag]; decide), a2, a3 (fun k hk => by rw [hk]; decide), a4 (by rw [h.hier.mtag]; decide), a5, a6 (fun k hk => by rw [hk]; decide), a7 (fun k hk => by rw [hk]; decide), h.hier.lenu, h.hier.lend, h.hier.plo, h.hier.mlo⟩
 ·have h4 : RIs (w1.setCell ⟨Bh, i, none⟩ v1) base o gv ov rv arcs L R := h.red.move (fun k hk h1 h2 => hm k hk (by omega))
  refine ⟨Kd.R_reok rfl h4.arc (fun k hk => ?_), Kd.R_reok rfl h4.ord (fun k hk => ?_), Kd.R_reok rfl h4.rnk (fun k hk => ?_)⟩
  ·show o' k = _
   rw [ho1 k (Kd.R_lt h.red.arc k hk)]
   exact h.red.arc.1 k hk
  ·show o' k = _
   rw [ho1 k (Kd.R_lt h.red.ord k hk)]
   exact h.red.ord.1 k hk
  ·show o' k = _
   rw [ho1 k (Kd.R_lt h.red.rnk k hk)]
   exact h.red.rnk.1 k hk
theorem EIs.added {ev' : Value} {vu' vd' : Nat → Value} {S' : HSt} (h : EIs w base p Bh o n gv ov rv ev mb Bu cu Bd cd vu vd vh arcs L R H S) (hb : Bel (HT o) w w1) (ho : ∀ k, k < w.heap.size → o' k = o k) (hh : HierIs w1 base p o' n gv ov rv ev' mb Bu cu Bd cd vu' vd' S') :
  EIs w1 base p Bh o' n gv ov rv ev' mb Bu cu Bd cd vu' vd' vh arcs L R H S' := by
 refine ⟨hh, rows_move (h.high.retag ho) hb.size (fun k hk ht => hb.block k hk (fun hT => ?_)), ?_⟩
 ·unfold HT at hT
  rw [ho k hk] at ht
  omega
 ·have h4 : RIs w1 base o gv ov rv arcs L R := h.red.move (fun k hk h1 h2 => hb.block k hk (fun hT => by unfold HT at hT; omega))
  refine ⟨Kd.R_reok rfl h4.arc (fun k hk => ?_), Kd.R_reok rfl h4.ord (fun k hk => ?_), Kd.R_reok rfl h4.rnk (fun k hk => ?_)⟩
  ·show o' k = _
   rw [ho k (Kd.R_lt h.red.arc k hk)]
   exact h.red.arc.1 k hk
  ·show o' k = _
   rw [ho k (Kd.R_lt h.red.ord k hk)]
   exact h.red.ord.1 k hk
  ·show o' k = _
   rw [ho k (Kd.R_lt h.red.rnk k hk)]
   exact h.red.rnk.1 k hk
end
theorem own_cell {w : World} {base : Nat} {ok : Nat → Prop} {v : Value} {l : List Int} (h : Kd.R (Kd.int .i64) 3 w base ok v l) {i : Nat} (hi : i < l.length) : ∃ b off c, v = .slice (some ⟨b, off, none⟩) l.length c ∧ w.cell? ⟨b, off + i, none⟩ = some (.int .i64 (l.getD i 0)) := by
 obtain ⟨A, c, rfl, hc, hC⟩ := Kd.R_reads h
 rcases cells_of_C hC with ⟨h0, _⟩ | ⟨_, b, off, rfl, hce⟩
 ·omega
 ·exact ⟨b, off, c, rfl, hce i hi⟩
def nilRows (n : Nat) : Array Value := madeCells #[.slice none 0 0] n
theorem infoInts : (Try.prog.info? 25).map (fun i => (i.zero, i.size, i.bytes)) = some (some (.slice none 0 0), 1, 24) := by kernel_rfl
theorem run_nilRows (n : Nat) (hn : n ≤ 20000) (w : World) : (Instr.makeSlice 59 (.int .i64 (n : Int)) (.int .i64 (n : Int))).run Try.prog w = .ok (.slice (some ⟨w.heap.size, 0, none⟩) n n) (w.alloc (.cells (nilRows n) 25 (0, 0))) := by
 obtain ⟨i, h1, hh⟩ := Option.map_eq_some_iff.1 infoInts
 simp only [Prod.mk.injEq] at hh
 obtain ⟨h2, h3, h4⟩ := hh
 have := run_makeSlice (P := Try.prog) w 59 25 i (.slice none 0 0) Try.underlying59 h1 h2 .i64 .i64 n n (by omega) (by omega) (by rw [h3]; simp; omega) (by rw [h4]; omega) (by omega)
 rw [this, h3]
 simp [nilRows, Value.cells]
theorem nilRows_get {n j : Nat} (h : j < n) : (nilRows n)[j]? = some (.slice none 0 0) := by
 unfold nilRows madeCells
 simp [h, Nat.mod_one]
theorem RowsIs.made {w : World} {base t n B : Nat} {o : Tags} (hb : w.heap[B]? = some (.cells (nilRows n) 25 (0, 0))) (ho : o B = (t, 0)) (hlo : base ≤ B) : RowsIs w base B t o (fun _ => .slice none 0 0) (List.replicate n []) := by
 refine ⟨fun i hi => ?_, fun i hi => ?_, ho, hlo, hblk_lt hb, fun i => blk_frozen hb i⟩
 ·rw [List.length_replicate] at hi
  have h1 := (blk_cell hb i).trans (nilRows_get hi)
  exact h1
 ·rw [List.length_replicate] at hi
  have : (List.replicate n ([] : List Int)).getD i [] = [] := by simp [hi]
  rw [this]
  exact Kd.R_nil _ _ _ _ _
def Agree (b1 b2 : Nat) (w W : World) : Prop := ∀ k, b1 ≤ k → k < b2 → W.heap[k]? = w.heap[k]?
theorem near_row {w : World} {b1 : Nat} {An : Option Addr} {cn : Nat} {near : List (List Int)} (hs : Kd.S (Kd.slice 3 (Kd.int .i64)) 25 w b1 (fun _ => True) (.slice An near.length cn) near) {v : Nat} (hv : v < near.length) :
  ∃ ad Ai xc, An = some ad ∧ (near.getD v []).length ≤ xc ∧ ∀ W, Agree b1 w.heap.size w W → W.cell? (ad.add v) = some (.slice Ai (near.getD v []).length xc) ∧ Kd.C (Kd.int .i64) W Ai (near.getD v []).length (near.getD v []) := by
 obtain ⟨g, cap, he, hb, hlt, cells, hcells⟩ := Kd.S_form hs (by omega)
 injection he with he1 _ he3
 subst he1 he3
 obtain ⟨c, hcl, hM, hcc⟩ := Kd.S_get (Kd.S_bound hs) [] (v : Int) (by omega) (by omega)
 obtain ⟨vx, rfl, hr⟩ := hM
 obtain ⟨Ai, xc, rfl⟩ := Kd.R_slice hr
 simp only [Int.toNat_natCast] at hr hcc
 have hc1 := hcc 0 _ rfl
 rw [show (Kd.slice 3 (Kd.int .i64)).sz = 1 from rfl, Nat.mul_one, Nat.add_zero] at hc1
 refine ⟨⟨g, 0, none⟩, Ai, xc, rfl, (Kd.R_reads' hr).2.1, fun W hW => ⟨?_, ?_⟩⟩
 ·rw [← hc1]
  have h2 : (⟨g, 0, none⟩ : Addr).add v = ⟨g, 0 + v, none⟩ := by rw [Addr.add_lit]
  rw [h2]
  unfold World.cell?
  rw [hW g hb hlt]
 ·exact (Kd.R_reads' (Kd.R_move hr (w1 := W) (fun k hk => hW k hk.1.2.1 hk.1.2.2.1))).2.2
theorem own_W {w : World} {b1 : Nat} {A : Option Addr} {c : Nat} {l : List Int} (h : Kd.R (Kd.int .i64) 3 w b1 (fun _ => True) (.slice A l.length c) l) : ∀ W, Agree b1 w.heap.size w W → Kd.C (Kd.int .i64) W A l.length l := fun W hW =>
 (Kd.R_reads' (Kd.R_move (Kd.R_bound h) (w1 := W) (fun k hk => hW k hk.2.1 hk.2.2.1))).2.2
theorem nb_good {n : Nat} {arcs : List S58} (hc : chk (n : Int) arcs = 0) (v : Nat) : (∀ x ∈ (nbRows n arcs).getD v [], 0 ≤ x ∧ x < (n : Int)) ∧ ((nbRows n arcs).getD v []).length ≤ n := by
 by_cases hv : v < n
 ·have h1 : (nbRows n arcs).getD v [] = nbS arcs (v : Int) := by
   rw [List.getD_eq_getElem?_getD, List.getElem?_eq_getElem (by rw [nbRows_length]; exact hv), Option.getD_some, nbRows_get]
  rw [h1]
  have h2 : ∀ x ∈ nbS arcs (v : Int), 0 ≤ x ∧ x < (n : Int) := fun x hx => by
   obtain ⟨y, rfl, hy⟩ := nbS_nat hc hx
   rw [Int.toNat_natCast] at hy
   omega
  exact ⟨h2, inc_len_n (inc_setOf _) h2⟩
 ·have h1 : (nbRows n arcs).getD v [] = [] := by
   rw [List.getD_eq_getElem?_getD, List.getElem?_eq_none (by rw [nbRows_length]; omega)]
   rfl
  rw [h1]
  simp
theorem EIs.start {w : World} {base p : Nat} {o : Tags} {n : Nat} {gv ov rv ev : Value} {mb Bu cu Bd cd : Nat} {vu vd : Nat → Value} {arcs : List S58} {L R : List Int} {S : HSt} (h : HierIs w base p o n gv ov rv ev mb Bu cu Bd cd vu vd S) (hr : RIs w base o gv ov rv arcs L R) :
  ∃ o2, (∀ k, w.heap.size + 1 ≤ k → o2 k = (10, 0)) ∧ (∀ k, k < w.heap.size → o2 k = o k) ∧ EIs (w.alloc (.cells (nilRows n) 25 (0, 0))) base p w.heap.size o2 n gv ov rv ev mb Bu cu Bd cd vu vd (fun _ => .slice none 0 0) arcs L R (List.replicate n []) S := by
 have hb : Below w.heap.size w (w.alloc (.cells (nilRows n) 25 (0, 0))) := (Below.refl _ _).alloc (Nat.le_refl _) _
 refine ⟨fun k => if w.heap.size + 1 ≤ k then (10, 0) else tagPut o w.heap.size (1, 0) k, fun k hk => if_pos hk, fun k hk => ?_, ?_⟩
 ·show (if w.heap.size + 1 ≤ k then (10, 0) else tagPut o w.heap.size (1, 0) k) = o k
  rw [if_neg (by omega)]
  unfold tagPut
  rw [if_neg (by omega)]
 ·have ho : ∀ k, k < w.heap.size → (fun k => if w.heap.size + 1 ≤ k then ((10, 0) : Nat × Nat) else tagPut o w.heap.size (1, 0) k) k = o k := fun k hk => by
   show (if w.heap.size + 1 ≤ k then (10, 0) else tagPut o w.heap.size (1, 0) k) = o k
   rw [if_neg (by omega)]
   unfold tagPut
   rw [if_neg (by omega)]
  have h2 := (h.retag ho).below hb
  have h3 : RIs w base _ gv ov rv arcs L R := hr.retag ho
  exact ⟨h2, RowsIs.made (heap_alloc_new w _) (by
   show (if w.heap.size + 1 ≤ w.heap.size then (10, 0) else tagPut o w.heap.size (1, 0) w.heap.size) = (1, 0)
   rw [if_neg (by omega)]
   unfold tagPut
   rw [if_pos rfl]) h.base_le, h3.move (fun k hk _ _ => hb.block k hk)⟩
theorem EIs.fresh {w : World} {base p Bh : Nat} {o : Tags} {n : Nat} {gv ov rv ev : Value} {mb Bu cu Bd cd : Nat} {vu vd vh : Nat → Value} {arcs : List S58} {L R : List Int} {H : List (List Int)} {S : HSt} (h : EIs w base p Bh o n gv ov rv ev mb Bu cu Bd cd vu vd vh arcs L R H S) :
  ∃ o2, (∀ k, w.heap.size ≤ k → o2 k = (10, 0)) ∧ (∀ k, k < w.heap.size → o2 k = o k) ∧ EIs w base p Bh o2 n gv ov rv ev mb Bu cu Bd cd vu vd vh arcs L R H S := by
 refine ⟨fun k => if w.heap.size ≤ k then (10, 0) else o k, fun k hk => if_pos hk, fun k hk => ?_, h.retag (fun k hk => ?_)⟩
 ·show (if w.heap.size ≤ k then (10, 0) else o k) = o k
  rw [if_neg (by omega)]
 ·show (if w.heap.size ≤ k then (10, 0) else o k) = o k
  rw [if_neg (by omega)]
theorem h2step_good {n c c' : Nat} {L : List Int} {r i : Nat} {l : List Int} {st : List (List Int) × HSt} (h : HGood n c st.1) (hs : SGood n c' st.2) (hl : ∀ x ∈ l, 0 ≤ x ∧ x < (n : Int)) (hi : i < l.length) : HGood n (c + 1) (h2step L r l i st).1 ∧ SGood n (c' + 1) (h2step L r l i st).2 := by
 have hm : ∀ j, j < l.length → 0 ≤ l.getD j 0 ∧ l.getD j 0 < (n : Int) := fun j hj => hl _ (by
  rw [List.getD_eq_getElem?_getD, List.getElem?_eq_getElem hj]
  exact List.getElem_mem hj)
 refine ⟨?_, hs.add⟩
 show HGood n (c + 1) (if 0 < i then hpush st.1 (l.getD 0 0).toNat (l.getD i 0) else st.1)
 split
 ·have := hm 0 (by omega)
  exact h.push (by omega) (hm i hi)
 ·exact h.le (by omega)
end Go.Proofs.Ytfnophaiamkmpaa.Print
