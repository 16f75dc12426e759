/- Undirected graphs as lists of lists of keys: what elimination does, in plain words; and how a call's own slice of maps holds one. -/
import Derived.Test.YtcfeehaoeaoegaaPrint0
import Derived.Test.YtcfeehaoeaoegaaHXMap
import Derived.Test.YtcfeehaoeaoegaaHSets
import Derived.LoopTactic
namespace Go.Proofs.Ytcfeehaoeaoegaa.Print
open Go.RowKit Go.Proofs.YtcfeehaoeaoegaaW.PrintWords Go.Proofs.YtcfeehaoeaoegaaW.PrintLast Go.Proofs.YtcfeehaoeaoegaaW.PrintMore
set_option linter.unusedVariables false
set_option linter.unusedSimpArgs false

/-! ### 1. Lists of keys -/
def kput (ks : List Int) (k : Int) : List Int := if k ∈ ks then ks else ks ++ [k]
def kmap (ks : List Int) : List (Int × Bool) := ks.map fun k => (k, true)
theorem kmap_fst (ks : List Int) : (kmap ks).map Prod.fst = ks := by
  unfold kmap
  rw [List.map_map]
  conv => rhs; rw [← List.map_id ks]
  rfl
theorem kmap_len (ks : List Int) : (kmap ks).length = ks.length := by simp [kmap]
theorem kmap_get (ks : List Int) (k : Int) : mget (kmap ks) k = if k ∈ ks then some true else none := by
  induction ks with
  | nil => rfl
  | cons x r ih =>
    show mget ((x, true) :: kmap r) k = _
    rw [mget_cons, ih]
    by_cases h : x = k
    · simp [h]
    · have h' : ¬ k = x := fun e => h e.symm
      simp [h, h']
theorem kmap_put (ks : List Int) (k : Int) : mput (kmap ks) k true = kmap (kput ks k) := by
  induction ks with
  | nil => rfl
  | cons x r ih =>
    show mput ((x, true) :: kmap r) k true = _
    unfold mput
    by_cases h : x = k
    · subst h
      simp [kput, kmap]
    · have h' : ¬ k = x := fun e => h e.symm
      rw [if_neg h, ih]
      unfold kput
      by_cases h2 : k ∈ r
      · simp [h2, kmap]
      · simp [h2, h', kmap]
theorem kmap_put2 (ks : List Int) (k : Int) (z : Bool) : mput (mput (kmap ks) k z) k true = kmap (kput ks k) := by rw [mput_mput, kmap_put]
theorem kmap_del (ks : List Int) (k : Int) : mdel (kmap ks) k = kmap (ks.erase k) := by
  induction ks with
  | nil => rfl
  | cons x r ih =>
    show mdel ((x, true) :: kmap r) k = _
    unfold mdel
    by_cases h : x = k
    · subst h
      simp
    · have h' : ¬ (x == k) = true := by simpa using h
      rw [if_neg h, ih, List.erase_cons, if_neg h']
      rfl
theorem mem_kput {ks : List Int} {k x : Int} : x ∈ kput ks k ↔ x ∈ ks ∨ x = k := by
  unfold kput
  split
  · rename_i h
    constructor
    · exact .inl
    · rintro (h1 | rfl)
      · exact h1
      · exact h
  · simp
theorem kput_nodup {ks : List Int} (h : ks.Nodup) (k : Int) : (kput ks k).Nodup := by
  unfold kput
  split
  · exact h
  · rename_i hn
    rw [List.nodup_append]
    exact ⟨h, by simp, fun a ha b hb => by simp at hb; subst hb; rintro rfl; exact hn ha⟩

/-! ### 2. Elimination -/
abbrev Nbs := List (Option (List Int))
def kOf (G : Nbs) (u : Int) : List Int := (G.getD u.toNat none).getD []
def kSet (G : Nbs) (u : Int) (ks : List Int) : Nbs := G.set u.toNat (some ks)
def kLink (G : Nbs) (u w : Int) : Nbs := let G1 := kSet G u (kput (kOf G u) w); kSet G1 w (kput (kOf G1 w) u)
def elimIn (u : Int) : List Int → Nbs → Int → Nbs × Int
  | [], G, f => (G, f)
  | w :: r, G, f => if w ∈ kOf G u then elimIn u r G f else elimIn u r (kLink G u w) (wrap64 (f + 1))
theorem elimIn_cons (u w : Int) (r : List Int) (G : Nbs) (f : Int) : elimIn u (w :: r) G f = if w ∈ kOf G u then elimIn u r G f else elimIn u r (kLink G u w) (wrap64 (f + 1)) := rfl
def elimGo (v : Int) : List Int → List Int → Nbs → Int → Nbs × Int
  | _, [], G, f => (G, f)
  | done, u :: r, G, f => let s := elimIn u done (kSet G u ((kOf G u).erase v)) f; elimGo v (done ++ [u]) r s.1 s.2
theorem elimGo_cons (v : Int) (done : List Int) (u : Int) (r : List Int) (G : Nbs) (f : Int) : elimGo v done (u :: r) G f = elimGo v (done ++ [u]) r (elimIn u done (kSet G u ((kOf G u).erase v)) f).1 (elimIn u done (kSet G u ((kOf G u).erase v)) f).2 := rfl
def elim (G : Nbs) (v : Int) : Nbs × Int := let s := elimGo v [] (setOf (kOf G v)) G 0; (s.1.set v.toNat none, s.2)
/-- Vertex u is there. -/
def Alive (G : Nbs) (u : Int) : Prop := 0 ≤ u ∧ u.toNat < G.length ∧ ∃ ks, G[u.toNat]? = some (some ks)
theorem Alive.keys {G : Nbs} {u : Int} (h : Alive G u) : G[u.toNat]? = some (some (kOf G u)) := by
  obtain ⟨_, h1, ks, h2⟩ := h
  unfold kOf
  rw [List.getD_eq_getElem?_getD, h2]
  rfl
theorem kSet_length (G : Nbs) (u : Int) (ks : List Int) : (kSet G u ks).length = G.length := by simp [kSet]
theorem kSet_alive {G : Nbs} {u : Int} (hu : Alive G u) (ks : List Int) {x : Int} : Alive (kSet G u ks) x ↔ Alive G x := by
  unfold Alive
  rw [kSet_length]
  constructor
  · rintro ⟨h1, h2, ks', h3⟩
    refine ⟨h1, h2, ?_⟩
    unfold kSet at h3
    rw [List.getElem?_set] at h3
    split at h3
    · rename_i e
      rw [← e]
      exact hu.2.2
    · exact ⟨_, h3⟩
  · rintro ⟨h1, h2, ks', h3⟩
    refine ⟨h1, h2, ?_⟩
    unfold kSet
    rw [List.getElem?_set]
    split
    · exact ⟨ks, by rw [if_pos hu.2.1]⟩
    · exact ⟨_, h3⟩
theorem kOf_kSet {G : Nbs} {u : Int} (hu : Alive G u) (ks : List Int) {x : Int} (hx : 0 ≤ x) : kOf (kSet G u ks) x = if x = u then ks else kOf G x := by
  unfold kOf kSet
  rw [List.getD_eq_getElem?_getD, List.getElem?_set]
  by_cases h : x = u
  · subst h
    rw [if_pos rfl, if_pos hu.2.1, if_pos rfl]
    rfl
  · have : ¬ u.toNat = x.toNat := by
      have := hu.1
      omega
    rw [if_neg this, if_neg h, List.getD_eq_getElem?_getD]
theorem kLink_alive {G : Nbs} {u w : Int} (hu : Alive G u) (hw : Alive G w) {x : Int} : Alive (kLink G u w) x ↔ Alive G x := by
  unfold kLink
  rw [kSet_alive ((kSet_alive hu _).2 hw), kSet_alive hu]
theorem kLink_length (G : Nbs) (u w : Int) : (kLink G u w).length = G.length := by simp [kLink, kSet_length]

/-! ### 3. A slice of maps -/
theorem setCell_size (w : World) (a : Addr) (v : Value) : (w.setCell a v).heap.size = w.heap.size := by simp [World.setCell]
/-- Block B holds, for each vertex, the map of its neighbours in a block of its own, or no map. -/
structure NbIs (w : World) (base B : Nat) (bs : Nat → Nat) (G : Nbs) : Prop where
  cell : ∀ i, i < G.length → w.cell? ⟨B, i, none⟩ = some (.map ((G.getD i none).map fun _ => bs i))
  maps : ∀ i ks, G[i]? = some (some ks) → MapIs (Value.int .i64) Value.bool w (bs i) (kmap ks)
  inj : ∀ i j, i < G.length → j < G.length → bs i = bs j → i = j
  lo : base ≤ B
  los : ∀ i, i < G.length → base ≤ bs i
  ne : ∀ i, i < G.length → bs i ≠ B
  top : B < w.heap.size
  tops : ∀ i, i < G.length → bs i < w.heap.size
  frz : ∀ i, w.frozen? ⟨B, i, none⟩ = false
theorem grown_trans {w w1 w2 : World} {row : Option Nat} (h : w.grownBy w1 row) (h' : w1.grownBy w2 row) : w.grownBy w2 row :=
  ⟨h'.os.trans h.os, h'.tape.trans h.tape, h'.output.trans h.output, Nat.le_trans h.size h'.size, fun k hk hne => (h'.block k (Nat.lt_of_lt_of_le hk h.size) hne).trans (h.block k hk hne)⟩
section
variable {w w1 : World} {base B : Nat} {bs : Nat → Nat} {G : Nbs}
theorem NbIs.cellOf (h : NbIs w base B bs G) {u : Int} (hu : Alive G u) : w.cell? ⟨B, u.toNat, none⟩ = some (.map (some (bs u.toNat))) := by
  rw [h.cell _ hu.2.1, List.getD_eq_getElem?_getD, hu.keys]
  rfl
theorem NbIs.mapOf (h : NbIs w base B bs G) {u : Int} (hu : Alive G u) : MapIs (Value.int .i64) Value.bool w (bs u.toNat) (kmap (kOf G u)) := h.maps _ _ hu.keys
theorem NbIs.below (h : NbIs w base B bs G) (hb : Below w.heap.size w w1) : NbIs w1 base B bs G :=
  ⟨fun i hi => pw_cell_below hb (h.cell i hi), fun i ks hk => (h.maps i ks hk).below hb, h.inj, h.lo, h.los, h.ne, Nat.lt_of_lt_of_le h.top hb.size, fun i hi => Nat.lt_of_lt_of_le (h.tops i hi) hb.size, fun i => (World.frozen?_of_block (hb.block B h.top)).trans (h.frz i)⟩
theorem NbIs.drew (h : NbIs w base B bs G) : NbIs w.drew base B bs G := ⟨h.cell, h.maps, h.inj, h.lo, h.los, h.ne, h.top, h.tops, h.frz⟩
theorem NbIs.drewN (h : NbIs w base B bs G) (n : Nat) : NbIs (w.drewN n) base B bs G := ⟨h.cell, h.maps, h.inj, h.lo, h.los, h.ne, h.top, h.tops, h.frz⟩
theorem NbIs.grown (h : NbIs w base B bs G) {row : Option Nat} (hg : w.grownBy w1 row) (hB : some B ≠ row) (hbs : ∀ i, i < G.length → some (bs i) ≠ row) : NbIs w1 base B bs G :=
  ⟨fun i hi => cell_grown hg (h.cell i hi) hB, fun i ks hk => (h.maps i ks hk).grown hg (hbs i (List.getElem?_eq_some_iff.1 hk).1), h.inj, h.lo, h.los, h.ne, Nat.lt_of_lt_of_le h.top hg.size, fun i hi => Nat.lt_of_lt_of_le (h.tops i hi) hg.size, fun i => (World.frozen?_of_block (hg.block B h.top hB)).trans (h.frz i)⟩
theorem NbIs.upd (h : NbIs w base B bs G) {u : Int} (hu : Alive G u) (ks : List Int) (hg : w.grownBy w1 (some (bs u.toNat))) (hm : MapIs (Value.int .i64) Value.bool w1 (bs u.toNat) (kmap ks)) : NbIs w1 base B bs (kSet G u ks) := by
  refine ⟨fun i hi => ?_, fun i ks' hk => ?_, fun i j hi hj => ?_, h.lo, fun i hi => ?_, fun i hi => ?_, ?_, fun i hi => ?_, fun i => ?_⟩
  · rw [kSet_length] at hi
    have h1 := cell_grown hg (h.cell i hi) (fun e => h.ne _ hu.2.1 (Option.some.inj e).symm)
    rw [h1]
    congr 2
    unfold kSet
    rw [List.getD_eq_getElem?_getD, List.getD_eq_getElem?_getD, List.getElem?_set]
    by_cases e : u.toNat = i
    · subst e
      rw [if_pos rfl, if_pos hi, hu.keys]
      rfl
    · rw [if_neg e]
  · unfold kSet at hk
    rw [List.getElem?_set] at hk
    by_cases e : u.toNat = i
    · rw [if_pos e] at hk
      split at hk
      · injection hk with hk
        injection hk with hk
        rw [← e, ← hk]
        exact hm
      · cases hk
    · rw [if_neg e] at hk
      have hi := (List.getElem?_eq_some_iff.1 hk).1
      exact (h.maps i ks' hk).grown hg (fun x => e (h.inj _ _ hu.2.1 hi (Option.some.inj x).symm))
  · rw [kSet_length] at hi hj
    exact h.inj i j hi hj
  · rw [kSet_length] at hi
    exact h.los i hi
  · rw [kSet_length] at hi
    exact h.ne i hi
  · exact Nat.lt_of_lt_of_le h.top hg.size
  · rw [kSet_length] at hi
    exact Nat.lt_of_lt_of_le (h.tops i hi) hg.size
  · exact (World.frozen?_of_block (hg.block B h.top (fun e => h.ne _ hu.2.1 (Option.some.inj e).symm))).trans (h.frz i)
theorem NbIs.kill (h : NbIs w base B bs G) {v : Int} (hv : Alive G v) : NbIs (w.setCell ⟨B, v.toNat, none⟩ (.map none)) base B bs (G.set v.toNat none) := by
  refine ⟨fun i hi => ?_, fun i ks' hk => ?_, fun i j hi hj => ?_, h.lo, fun i hi => ?_, fun i hi => ?_, ?_, fun i hi => ?_, fun i => ?_⟩
  · rw [List.length_set] at hi
    rw [List.getD_eq_getElem?_getD, List.getElem?_set]
    by_cases e : v.toNat = i
    · subst e
      rw [if_pos rfl, if_pos hi]
      have h1 := h.cell _ hi
      exact World.cell?_setCell_same _ _ _ h1
    · rw [if_neg e, ← List.getD_eq_getElem?_getD]
      refine (World.cell?_setCell_other (h := fun x => ?_) ..).trans (h.cell i hi)
      injection x with _ x
      exact e x
  · rw [List.getElem?_set] at hk
    by_cases e : v.toNat = i
    · rw [if_pos e] at hk
      split at hk <;> cases hk
    · rw [if_neg e] at hk
      exact (h.maps i ks' hk).setCell _ _
  · rw [List.length_set] at hi hj
    exact h.inj i j hi hj
  · rw [List.length_set] at hi
    exact h.los i hi
  · rw [List.length_set] at hi
    exact h.ne i hi
  · rw [setCell_size]
    exact h.top
  · rw [List.length_set] at hi
    rw [setCell_size]
    exact h.tops i hi
  · rw [World.frozen?_setCell]
    exact h.frz i
/-- A store by two halves. -/
theorem NbIs.upd2 {w2 : World} (h : NbIs w base B bs G) {u x : Int} {z : Bool} (hu : Alive G u) (hg1 : w.grownBy w1 (some (bs u.toNat))) (hm1 : MapIs (Value.int .i64) Value.bool w1 (bs u.toNat) (mput (kmap (kOf G u)) x z)) (hg2 : w1.grownBy w2 (some (bs u.toNat)))
    (hm2 : MapIs (Value.int .i64) Value.bool w2 (bs u.toNat) (mput (mput (kmap (kOf G u)) x z) x true)) : NbIs w2 base B bs (kSet G u (kput (kOf G u) x)) := by
  rw [kmap_put2] at hm2
  exact h.upd hu _ (grown_trans hg1 hg2) hm2
end

/-! ### 4. What a call leaves alone, but for the blocks of T -/
structure Bel (T : Nat → Prop) (w w' : World) : Prop where
  os : w'.os = w.os
  tape : w'.tape = w.tape
  output : w'.output = w.output
  size : w.heap.size ≤ w'.heap.size
  block : ∀ k, k < w.heap.size → ¬ T k → w'.heap[k]? = w.heap[k]?
section
variable {T : Nat → Prop} {W w w1 : World}
theorem Bel.refl (T : Nat → Prop) (w : World) : Bel T w w := ⟨rfl, rfl, rfl, Nat.le_refl _, fun _ _ _ => rfl⟩
theorem Bel.trans (h : Bel T W w) {T' : Nat → Prop} (h' : Bel T' w w1) (hT : ∀ k, k < W.heap.size → T' k → T k) : Bel T W w1 :=
  ⟨h'.os.trans h.os, h'.tape.trans h.tape, h'.output.trans h.output, Nat.le_trans h.size h'.size, fun k hk hn => (h'.block k (Nat.lt_of_lt_of_le hk h.size) (fun x => hn (hT k hk x))).trans (h.block k hk hn)⟩
theorem Bel.below (h : Bel T W w) (h' : Below w.heap.size w w1) : Bel T W w1 :=
  ⟨h'.os.trans h.os, h'.tape.trans h.tape, h'.output.trans h.output, Nat.le_trans h.size h'.size, fun k hk hn => (h'.block k (Nat.lt_of_lt_of_le hk h.size)).trans (h.block k hk hn)⟩
theorem Bel.alloc (h : Bel T W w) (o : Obj) : Bel T W (w.alloc o) := h.below ((Below.refl _ _).alloc (Nat.le_refl _) o)
theorem Bel.drew (h : Bel T W w) : Bel T W w.drew := ⟨h.os, h.tape, h.output, h.size, h.block⟩
theorem Bel.grown (h : Bel T W w) {row : Option Nat} (h' : w.grownBy w1 row) (hr : ∀ k, row = some k → T k ∨ W.heap.size ≤ k) : Bel T W w1 :=
  ⟨h'.os.trans h.os, h'.tape.trans h.tape, h'.output.trans h.output, Nat.le_trans h.size h'.size, fun k hk hn => (h'.block k (Nat.lt_of_lt_of_le hk h.size) (fun e => by
    rcases hr k e.symm with h1 | h1
    · exact hn h1
    · omega)).trans (h.block k hk hn)⟩
theorem Bel.setCell (h : Bel T W w) (a : Addr) (v : Value) (ha : T a.block ∨ W.heap.size ≤ a.block) : Bel T W (w.setCell a v) :=
  ⟨h.os, h.tape, h.output, by rw [setCell_size]; exact h.size, fun k hk hn => (Below.heap_setCell w a v k (fun e => by
    rcases ha with h1 | h1
    · exact hn (e ▸ h1)
    · omega)).trans (h.block k hk hn)⟩
theorem Bel.out (h : Bel T W w) {base : Nat} (hb : base ≤ W.heap.size) (hT : ∀ k, T k → base ≤ k) : Below base W w :=
  ⟨h.os, h.tape, h.output, h.size, fun k hk => h.block k (Nat.lt_of_lt_of_le hk hb) (fun x => by have := hT k x; omega)⟩
end
theorem nodup_le : ∀ (n : Nat) (l : List Nat), l.Nodup → (∀ x ∈ l, x < n) → l.length ≤ n
  | 0, l, _, h => by
    cases l with
    | nil => simp
    | cons a r => exact absurd (h a (by simp)) (by omega)
  | n + 1, l, hl, h => by
    have h1 := nodup_le n (l.erase n) (hl.erase n) (fun x hx => by
      have hx' := (List.Nodup.mem_erase_iff hl).1 hx
      have := h x hx'.2
      have := hx'.1
      omega)
    rw [List.length_erase] at h1
    split at h1 <;> omega
theorem kmap_at {ks : List Int} {i : Nat} {k : Int} {v : Bool} (h : (kmap ks)[i]? = some (k, v)) : ∃ hi : i < ks.length, k = ks.getD i 0 := by
  unfold kmap at h
  rw [List.getElem?_map] at h
  have hi : i < ks.length := by
    rcases Nat.lt_or_ge i ks.length with h1 | h1
    · exact h1
    · rw [List.getElem?_eq_none h1] at h
      cases h
  refine ⟨hi, ?_⟩
  rw [List.getElem?_eq_getElem hi] at h
  simp only [Option.map_some, Option.some.injEq, Prod.mk.injEq] at h
  rw [List.getD_eq_getElem?_getD, List.getElem?_eq_getElem hi, ← h.1]
  rfl
theorem keys_le {ks : List Int} {n : Nat} (hnd : ks.Nodup) (h : ∀ x ∈ ks, 0 ≤ x ∧ x.toNat < n) : ks.length ≤ n := by
  have h1 := nodup_le n (ks.map Int.toNat) (by
    unfold List.Nodup at hnd ⊢
    rw [List.pairwise_map]
    exact hnd.imp_of_mem fun {a b} ha hb hne e => hne (by have := (h a ha).1; have := (h b hb).1; omega)) (fun x hx => by
      obtain ⟨y, hy, rfl⟩ := List.mem_map.1 hx
      exact (h y hy).2)
  simpa using h1
theorem setOf_ext {l l' : List Int} (h : ∀ x, x ∈ l ↔ x ∈ l') : setOf l = setOf l' := inc_unique (inc_setOf l) (inc_setOf l') fun x => by rw [mem_setOf, mem_setOf, h x]
theorem setOf_places {ks : List Int} {is : List Nat} (hb : ∀ i ∈ is, i < ks.length) (ha : ∀ i, i < ks.length → i ∈ is) : setOf (is.map fun i => ks.getD i 0) = setOf ks := by
  refine setOf_ext fun x => ?_
  rw [List.mem_map, List.mem_iff_getElem]
  constructor
  · rintro ⟨i, hi, rfl⟩
    exact ⟨i, hb i hi, by simp [List.getElem?_eq_getElem (hb i hi)]⟩
  · rintro ⟨i, hi, rfl⟩
    exact ⟨i, ha i hi, by simp [List.getElem?_eq_getElem hi]⟩
def lenV : Value → Nat
  | .slice _ n _ => n
  | _ => 0
end Go.Proofs.Ytcfeehaoeaoegaa.Print

namespace Go.Proofs.Ytcfeehaoeaoegaa.Print
open Go.RowKit Go.Proofs.YtcfeehaoeaoegaaW.PrintWords Go.Proofs.YtcfeehaoeaoegaaW.PrintLast Go.Proofs.YtcfeehaoeaoegaaW.PrintMore
set_option linter.unusedVariables false
set_option linter.unusedSimpArgs false

theorem wrap_nat {a : Nat} (h : a < 1000000000000000) : wrap64 ((a : Nat) : Int) = (a : Int) := by unfold wrap64; omega
theorem kLink_mem {G : Nbs} {u w : Int} (hu : Alive G u) (hw : Alive G w) (hne : u ≠ w) {x y : Int} (hx : 0 ≤ x) : y ∈ kOf (kLink G u w) x ↔ y ∈ kOf G x ∨ (x = u ∧ y = w) ∨ (x = w ∧ y = u) := by
  have hw1 := (kSet_alive hu (kput (kOf G u) w)).2 hw
  unfold kLink
  simp only
  rw [kOf_kSet hw1 _ hx]
  by_cases h1 : x = w
  · subst h1
    rw [if_pos rfl, mem_kput, kOf_kSet hu _ hx, if_neg (Ne.symm hne)]
    constructor
    · rintro (h | h)
      · exact .inl h
      · exact .inr (.inr ⟨rfl, h⟩)
    · rintro (h | ⟨h, _⟩ | ⟨_, h⟩)
      · exact .inl h
      · exact absurd h (Ne.symm hne)
      · exact .inr h
  · rw [if_neg h1, kOf_kSet hu _ hx]
    by_cases h2 : x = u
    · subst h2
      rw [if_pos rfl, mem_kput]
      constructor
      · rintro (h | h)
        · exact .inl h
        · exact .inr (.inl ⟨rfl, h⟩)
      · rintro (h | ⟨_, h⟩ | ⟨h, _⟩)
        · exact .inl h
        · exact .inr h
        · exact absurd h hne
    · rw [if_neg h2]
      constructor
      · exact .inl
      · rintro (h | ⟨h, _⟩ | ⟨h, _⟩)
        · exact h
        · exact absurd h h2
        · exact absurd h h1
def KNd (G : Nbs) : Prop := ∀ x, Alive G x → (kOf G x).Nodup
theorem KNd.kSet {G : Nbs} (h : KNd G) {u : Int} (hu : Alive G u) {ks : List Int} (hk : ks.Nodup) : KNd (kSet G u ks) := fun x hx => by
  rw [kOf_kSet hu ks hx.1]
  split
  · exact hk
  · exact h x ((kSet_alive hu ks).1 hx)
theorem KNd.link {G : Nbs} (h : KNd G) {u w : Int} (hu : Alive G u) (hw : Alive G w) : KNd (kLink G u w) := by
  have h1 := h.kSet hu (kput_nodup (h u hu) w)
  have hw1 := (kSet_alive hu (kput (kOf G u) w)).2 hw
  exact h1.kSet hw1 (kput_nodup (h1 w hw1) u)
/-- The inner loop: u is connected with all of D. -/
theorem elimIn_spec {u : Int} : ∀ (D : List Int) (G : Nbs) (f : Nat), Alive G u → (∀ w ∈ D, Alive G w ∧ w ≠ u) → (∀ w ∈ D, w ∈ kOf G u → u ∈ kOf G w) → D.Nodup → KNd G → f + D.length < 1000000000000000 →
    (∀ x, Alive (elimIn u D G f).1 x ↔ Alive G x) ∧ (elimIn u D G f).1.length = G.length ∧ KNd (elimIn u D G f).1 ∧
    (∀ x y, 0 ≤ x → (y ∈ kOf (elimIn u D G f).1 x ↔ y ∈ kOf G x ∨ (x = u ∧ y ∈ D) ∨ (x ∈ D ∧ y = u))) ∧
    (elimIn u D G f).2 = ((f + D.countP (fun w => !decide (w ∈ kOf G u)) : Nat) : Int)
  | [], G, f, _, _, _, _, hk, _ => by
    refine ⟨fun x => Iff.rfl, rfl, hk, fun x y _ => ?_, by simp [elimIn]⟩
    constructor
    · exact .inl
    · rintro (h | ⟨_, h⟩ | ⟨h, _⟩)
      · exact h
      · cases h
      · cases h
  | w :: r, G, f, hu, hD, hs, hnd, hk, hb => by
    obtain ⟨hw, hwu⟩ := hD w (by simp)
    rw [List.nodup_cons] at hnd
    rw [List.length_cons] at hb
    rw [elimIn_cons]
    by_cases hin : w ∈ kOf G u
    · rw [if_pos hin]
      obtain ⟨h1, h2, h3, h4, h5⟩ := elimIn_spec r G f hu (fun x hx => hD x (by simp [hx])) (fun x hx => hs x (by simp [hx])) hnd.2 hk (by omega)
      refine ⟨h1, h2, h3, fun x y hx => ?_, ?_⟩
      · rw [h4 x y hx]
        constructor
        · rintro (h | ⟨h, h'⟩ | ⟨h, h'⟩)
          · exact .inl h
          · exact .inr (.inl ⟨h, by simp [h']⟩)
          · exact .inr (.inr ⟨by simp [h], h'⟩)
        · rintro (h | ⟨rfl, h'⟩ | ⟨h, rfl⟩)
          · exact .inl h
          · rcases List.mem_cons.1 h' with rfl | h'
            · exact .inl hin
            · exact .inr (.inl ⟨rfl, h'⟩)
          · rcases List.mem_cons.1 h with rfl | h
            · exact .inl (hs _ (by simp) hin)
            · exact .inr (.inr ⟨h, rfl⟩)
      · rw [h5, List.countP_cons]
        simp [hin]
    · rw [if_neg hin]
      have hf : wrap64 ((f : Int) + 1) = ((f + 1 : Nat) : Int) := by unfold wrap64; omega
      rw [hf]
      have hl := fun x y (hx : 0 ≤ x) => kLink_mem hu hw (Ne.symm hwu) (x := x) (y := y) hx
      obtain ⟨h1, h2, h3, h4, h5⟩ := elimIn_spec r (kLink G u w) (f + 1) ((kLink_alive hu hw).2 hu) (fun x hx => ⟨(kLink_alive hu hw).2 (hD x (by simp [hx])).1, (hD x (by simp [hx])).2⟩)
        (fun x hx hxu => by
          rw [hl u x hu.1] at hxu
          rw [hl x u (hD x (by simp [hx])).1.1]
          rcases hxu with h | ⟨_, h⟩ | ⟨h, _⟩
          · exact .inl (hs x (by simp [hx]) h)
          · exact absurd (h ▸ hx) hnd.1
          · exact absurd h.symm hwu) hnd.2 (hk.link hu hw) (by omega)
      refine ⟨fun x => (h1 x).trans (kLink_alive hu hw), h2.trans (kLink_length ..), h3, fun x y hx => ?_, ?_⟩
      · rw [h4 x y hx, hl x y hx]
        constructor
        · rintro ((h | ⟨h, h'⟩ | ⟨h, h'⟩) | ⟨h, h'⟩ | ⟨h, h'⟩)
          · exact .inl h
          · exact .inr (.inl ⟨h, by simp [h']⟩)
          · exact .inr (.inr ⟨by simp [h], h'⟩)
          · exact .inr (.inl ⟨h, by simp [h']⟩)
          · exact .inr (.inr ⟨by simp [h], h'⟩)
        · rintro (h | ⟨rfl, h'⟩ | ⟨h, rfl⟩)
          · exact .inl (.inl h)
          · rcases List.mem_cons.1 h' with rfl | h'
            · exact .inl (.inr (.inl ⟨rfl, rfl⟩))
            · exact .inr (.inl ⟨rfl, h'⟩)
          · rcases List.mem_cons.1 h with rfl | h
            · exact .inl (.inr (.inr ⟨rfl, rfl⟩))
            · exact .inr (.inr ⟨h, rfl⟩)
      · rw [h5, List.countP_cons]
        have hc : r.countP (fun x => !decide (x ∈ kOf (kLink G u w) u)) = r.countP (fun x => !decide (x ∈ kOf G u)) := by
          apply List.countP_congr
          intro x hx
          have hxw : x ≠ w := fun e => hnd.1 (e ▸ hx)
          have : x ∈ kOf (kLink G u w) u ↔ x ∈ kOf G u := by
            rw [hl u x hu.1]
            constructor
            · rintro (h | ⟨_, h⟩ | ⟨h, _⟩)
              · exact h
              · exact absurd h hxw
              · exact absurd h.symm hwu
            · exact .inl
          simp [this]
        rw [hc]
        simp [hin]
        omega
/-- A graph of lists of keys is undirected, without loops, among the vertices that are there. -/
structure Good (G : Nbs) : Prop where
  nd : KNd G
  irr : ∀ x, Alive G x → ¬ x ∈ kOf G x
  ali : ∀ x, Alive G x → ∀ y ∈ kOf G x, Alive G y
  sym : ∀ x, Alive G x → ∀ y ∈ kOf G x, x ∈ kOf G y
/-- How many pairs of the list are not neighbours; done is what stands before it. -/
def newOf (G : Nbs) : List Int → List Int → Nat
  | _, [] => 0
  | D, u :: r => D.countP (fun w => !decide (w ∈ kOf G u)) + newOf G (D ++ [u]) r
theorem elimGo_spec {G : Nbs} {v : Int} (hg : Good G) (hv : Alive G v) : ∀ (r D : List Int) (Gd : Nbs) (f : Nat), (D ++ r).Nodup → (∀ x ∈ D ++ r, x ∈ kOf G v) → f + (D ++ r).length * (D ++ r).length < 1000000000 + D.length * (D ++ r).length → D.length + r.length < 30000000 →
    (∀ x, Alive Gd x ↔ Alive G x) → Gd.length = G.length → KNd Gd → (∀ x y, Alive G x → (y ∈ kOf Gd x ↔ (y ∈ kOf G x ∧ ¬ (x ∈ D ∧ y = v)) ∨ (x ≠ y ∧ x ∈ D ∧ y ∈ D))) →
    (∀ x, Alive (elimGo v D r Gd f).1 x ↔ Alive G x) ∧ (elimGo v D r Gd f).1.length = G.length ∧ KNd (elimGo v D r Gd f).1 ∧
    (∀ x y, Alive G x → (y ∈ kOf (elimGo v D r Gd f).1 x ↔ (y ∈ kOf G x ∧ ¬ (x ∈ D ++ r ∧ y = v)) ∨ (x ≠ y ∧ x ∈ D ++ r ∧ y ∈ D ++ r))) ∧
    (elimGo v D r Gd f).2 = ((f + newOf G D r : Nat) : Int)
  | [], D, Gd, f, hnd, hm, hf, hfb, h1, h2, h3, h4 => by
    rw [List.append_nil]
    exact ⟨h1, h2, h3, h4, by simp [elimGo, newOf]⟩
  | u :: r, D, Gd, f, hnd, hm, hf, hfb, h1, h2, h3, h4 => by
    rw [List.length_cons] at hfb
    have hassoc : D ++ u :: r = (D ++ [u]) ++ r := by simp
    have hu : Alive G u := hg.ali v hv u (hm u (by simp))
    have huv : u ≠ v := fun e => hg.irr v hv (by have := hm u (by simp); rwa [e] at this)
    have huD : ¬ u ∈ D := fun h => by
      rw [List.nodup_append] at hnd
      exact hnd.2.2 u h u (by simp) rfl
    have hDnd : D.Nodup := by rw [List.nodup_append] at hnd; exact hnd.1
    have hDa : ∀ w ∈ D, Alive G w ∧ w ≠ u := fun w hw => ⟨hg.ali v hv w (hm w (by simp [hw])), fun e => huD (e ▸ hw)⟩
    have hud := (h1 u).2 hu
    have hA1 := fun x => (kSet_alive hud ((kOf Gd u).erase v) (x := x)).trans (h1 x)
    have hK1 := h3.kSet hud ((h3 u hud).erase v)
    have hM1 : ∀ x y, Alive G x → (y ∈ kOf (kSet Gd u ((kOf Gd u).erase v)) x ↔ (y ∈ kOf G x ∧ ¬ (x ∈ D ++ [u] ∧ y = v)) ∨ (x ≠ y ∧ x ∈ D ∧ y ∈ D)) := by
      intro x y hx
      rw [kOf_kSet hud _ hx.1]
      by_cases e : x = u
      · subst e
        rw [if_pos rfl, List.Nodup.mem_erase_iff (h3 x hud), h4 x y hx]
        constructor
        · rintro ⟨hy, (⟨h, _⟩ | ⟨_, h, _⟩)⟩
          · exact .inl ⟨h, fun h' => hy h'.2⟩
          · exact absurd h huD
        · rintro (⟨h, h'⟩ | ⟨_, h, _⟩)
          · exact ⟨fun e => h' ⟨by simp, e⟩, .inl ⟨h, fun h'' => huD h''.1⟩⟩
          · exact absurd h huD
      · rw [if_neg e, h4 x y hx]
        constructor
        · rintro (⟨h, h'⟩ | h)
          · exact .inl ⟨h, fun h'' => h' ⟨by rcases List.mem_append.1 h''.1 with h3 | h3; exact h3; simp at h3; exact absurd h3 e, h''.2⟩⟩
          · exact .inr h
        · rintro (⟨h, h'⟩ | h)
          · exact .inl ⟨h, fun h'' => h' ⟨by simp [h''.1], h''.2⟩⟩
          · exact .inr h
    have hfl : f + D.length < 1000000000000000 := by
      have h5 : (D ++ u :: r).length = D.length + (r.length + 1) := by simp
      have h6 : D.length * (D ++ u :: r).length ≤ (D ++ u :: r).length * (D ++ u :: r).length := Nat.mul_le_mul_right _ (by omega)
      have h7 : D.length < 30000000 := by omega
      omega
    obtain ⟨g1, g2, g3, g4, g5⟩ := elimIn_spec D (kSet Gd u ((kOf Gd u).erase v)) f ((hA1 u).2 hu) (fun w hw => ⟨(hA1 w).2 (hDa w hw).1, (hDa w hw).2⟩)
      (fun w hw hwu => by
        rw [hM1 u w hu] at hwu
        rw [hM1 w u (hDa w hw).1]
        rcases hwu with ⟨h, _⟩ | ⟨_, h, _⟩
        · exact .inl ⟨hg.sym u hu w h, fun h' => huv h'.2⟩
        · exact absurd h huD) hDnd hK1 hfl
    have hlen : (kSet Gd u ((kOf Gd u).erase v)).length = G.length := (kSet_length ..).trans h2
    rw [elimGo_cons]
    have hcnt : D.countP (fun w => !decide (w ∈ kOf (kSet Gd u ((kOf Gd u).erase v)) u)) = D.countP (fun w => !decide (w ∈ kOf G u)) := by
      apply List.countP_congr
      intro w hw
      have : w ∈ kOf (kSet Gd u ((kOf Gd u).erase v)) u ↔ w ∈ kOf G u := by
        rw [hM1 u w hu]
        constructor
        · rintro (⟨h, _⟩ | ⟨_, h, _⟩)
          · exact h
          · exact absurd h huD
        · intro h
          refine .inl ⟨h, fun h' => ?_⟩
          exact hg.irr v hv (by have := hm w (by simp [hw]); rwa [h'.2] at this)
      simp [this]
    rw [g5, hcnt]
    have hcl : D.countP (fun w => !decide (w ∈ kOf G u)) ≤ D.length := List.countP_le_length
    rw [hassoc]
    have hrec := elimGo_spec hg hv r (D ++ [u]) (elimIn u D (kSet Gd u ((kOf Gd u).erase v)) f).1 (f + D.countP (fun w => !decide (w ∈ kOf G u))) (by rw [← hassoc]; exact hnd) (by rw [← hassoc]; exact hm)
      (by
        rw [← hassoc]
        have h5 : (D ++ u :: r).length = D.length + (r.length + 1) := by simp
        have h6 : (D ++ [u]).length * (D ++ u :: r).length = D.length * (D ++ u :: r).length + (D ++ u :: r).length := by
          rw [List.length_append, Nat.add_mul]
          simp
        rw [h6]
        omega)
      (by simp; omega) (fun x => (g1 x).trans (hA1 x)) (g2.trans hlen) g3
      (fun x y hx => by
        rw [g4 x y hx.1, hM1 x y hx]
        constructor
        · rintro ((h | ⟨ha, hb, hc⟩) | ⟨rfl, h⟩ | ⟨h, rfl⟩)
          · exact .inl h
          · exact .inr ⟨ha, by simp [hb], by simp [hc]⟩
          · exact .inr ⟨fun e => huD (e ▸ h), by simp, by simp [h]⟩
          · exact .inr ⟨fun e => huD (e ▸ h), by simp [h], by simp⟩
        · rintro (h | ⟨ha, hb, hc⟩)
          · exact .inl (.inl h)
          · rcases List.mem_append.1 hb with hb | hb
            · rcases List.mem_append.1 hc with hc | hc
              · exact .inl (.inr ⟨ha, hb, hc⟩)
              · simp at hc
                exact .inr (.inr ⟨hb, hc⟩)
            · simp at hb
              subst hb
              rcases List.mem_append.1 hc with hc | hc
              · exact .inr (.inl ⟨rfl, hc⟩)
              · simp at hc
                exact absurd hc.symm ha)
    obtain ⟨k1, k2, k3, k4, k5⟩ := hrec
    refine ⟨k1, k2, k3, k4, ?_⟩
    rw [k5]
    simp only [newOf]
    omega
theorem inc_nodup {l : List Int} (h : l.Pairwise (· < ·)) : l.Nodup := h.imp (fun hab => by omega)
/-- Elimination: what is left. -/
theorem elim_spec {G : Nbs} {v : Int} (hg : Good G) (hv : Alive G v) (hb : G.length ≤ 20000) :
    (∀ x, Alive (elim G v).1 x ↔ Alive G x ∧ x ≠ v) ∧ (elim G v).1.length = G.length ∧ Good (elim G v).1 ∧
    (∀ x y, Alive G x → x ≠ v → (y ∈ kOf (elim G v).1 x ↔ y ≠ v ∧ (y ∈ kOf G x ∨ (x ≠ y ∧ x ∈ kOf G v ∧ y ∈ kOf G v)))) ∧
    (elim G v).2 = ((newOf G [] (setOf (kOf G v)) : Nat) : Int) := by
  have hnd : (setOf (kOf G v)).Nodup := inc_nodup (inc_setOf _)
  have hlen : (setOf (kOf G v)).length ≤ 20000 := Nat.le_trans (keys_le hnd fun x hx => by
    have := hg.ali v hv x (mem_setOf.1 hx)
    exact ⟨this.1, this.2.1⟩) hb
  have hsq : (setOf (kOf G v)).length * (setOf (kOf G v)).length ≤ 20000 * 20000 := Nat.mul_le_mul hlen hlen
  obtain ⟨h1, h2, h3, h4, h5⟩ := elimGo_spec hg hv (setOf (kOf G v)) [] G 0 (by simpa using hnd) (fun x hx => mem_setOf.1 (by simpa using hx)) (by simp; omega) (by simp; omega) (fun x => Iff.rfl) rfl hg.nd (fun x y hx => by simp)
  rw [Nat.zero_add] at h5
  rw [List.nil_append] at h4
  simp only [mem_setOf] at h4
  have hset : ∀ x : Int, x.toNat ≠ v.toNat → ((elimGo v [] (setOf (kOf G v)) G ((0 : Nat) : Int)).1.set v.toNat none)[x.toNat]? = (elimGo v [] (setOf (kOf G v)) G ((0 : Nat) : Int)).1[x.toNat]? := fun x hx => by
    rw [List.getElem?_set, if_neg (fun e => hx e.symm)]
  have hA : ∀ x, Alive (elim G v).1 x ↔ Alive G x ∧ x ≠ v := by
    intro x
    unfold elim Alive
    simp only [List.length_set]
    constructor
    · rintro ⟨ha, hb, ks, hc⟩
      by_cases e : x.toNat = v.toNat
      · rw [e, List.getElem?_set, if_pos rfl] at hc
        split at hc <;> cases hc
      · have h6 : Alive (elimGo v [] (setOf (kOf G v)) G ((0 : Nat) : Int)).1 x := ⟨ha, hb, ks, by rw [← hset x e]; exact hc⟩
        exact ⟨(h1 x).1 h6, fun e2 => e (by rw [e2])⟩
    · rintro ⟨ha, hne⟩
      have h6 := (h1 x).2 ha
      have e : x.toNat ≠ v.toNat := by
        have := ha.1
        have := hv.1
        omega
      exact ⟨h6.1, h6.2.1, by obtain ⟨ks, hk⟩ := h6.2.2; exact ⟨ks, by rw [← hk]; exact hset x e⟩⟩
  have hK : ∀ x, Alive G x → x ≠ v → kOf (elim G v).1 x = kOf (elimGo v [] (setOf (kOf G v)) G ((0 : Nat) : Int)).1 x := by
    intro x hx hne
    have e : x.toNat ≠ v.toNat := by
      have := hx.1
      have := hv.1
      omega
    unfold elim kOf
    rw [List.getD_eq_getElem?_getD, List.getD_eq_getElem?_getD]
    have := hset x e
    unfold kOf at this
    exact congrArg (fun o : Option (Option (List Int)) => ((o.getD none).getD [])) this
  have hM : ∀ x y, Alive G x → x ≠ v → (y ∈ kOf (elim G v).1 x ↔ y ≠ v ∧ (y ∈ kOf G x ∨ (x ≠ y ∧ x ∈ kOf G v ∧ y ∈ kOf G v))) := by
    intro x y hx hne
    rw [hK x hx hne, h4 x y hx]
    constructor
    · rintro (⟨ha, hb⟩ | ⟨ha, hb, hc⟩)
      · by_cases e : y = v
        · subst e
          exact absurd ⟨hg.sym x hx y ha, rfl⟩ hb
        · exact ⟨e, .inl ha⟩
      · exact ⟨fun e => hg.irr v hv (e ▸ hc), .inr ⟨ha, hb, hc⟩⟩
    · rintro ⟨ha, hb | hb⟩
      · exact .inl ⟨hb, fun h => ha h.2⟩
      · exact .inr hb
  refine ⟨hA, by unfold elim; rw [List.length_set]; exact h2, ⟨fun x hx => ?_, fun x hx h => ?_, fun x hx y hy => ?_, fun x hx y hy => ?_⟩, hM, h5⟩
  · obtain ⟨ha, hne⟩ := (hA x).1 hx
    rw [hK x ha hne]
    exact h3 x ((h1 x).2 ha)
  · obtain ⟨ha, hne⟩ := (hA x).1 hx
    rw [hM x x ha hne] at h
    rcases h.2 with h | h
    · exact hg.irr x ha h
    · exact h.1 rfl
  · obtain ⟨ha, hne⟩ := (hA x).1 hx
    rw [hM x y ha hne] at hy
    refine (hA y).2 ⟨?_, hy.1⟩
    rcases hy.2 with h | h
    · exact hg.ali x ha y h
    · exact hg.ali v hv y h.2.2
  · obtain ⟨ha, hne⟩ := (hA x).1 hx
    rw [hM x y ha hne] at hy
    have hya : Alive G y := by
      rcases hy.2 with h | h
      · exact hg.ali x ha y h
      · exact hg.ali v hv y h.2.2
    rw [hM y x hya hy.1]
    refine ⟨hne, ?_⟩
    rcases hy.2 with h | h
    · exact .inl (hg.sym x ha y h)
    · exact .inr ⟨Ne.symm h.1, h.2.2, h.2.1⟩
end Go.Proofs.Ytcfeehaoeaoegaa.Print
