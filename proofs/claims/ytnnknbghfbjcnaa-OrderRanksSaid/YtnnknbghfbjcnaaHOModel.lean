/- Undirected graphs as lists of lists of keys: what elimination does, in plain words; and how a call's own slice of maps holds one. -/
import Derived.Test.YtnnknbghfbjcnaaPrint0
import Derived.Test.YtnnknbghfbjcnaaHXMap3
import Derived.Test.YtnnknbghfbjcnaaHSets
import Derived.LoopTactic
namespace Go.Proofs.Ytnnknbghfbjcnaa.Print
open Go.RowKit Go.Proofs.YtnnknbghfbjcnaaW.PrintWords Go.Proofs.YtnnknbghfbjcnaaW.PrintLast Go.Proofs.YtnnknbghfbjcnaaW.PrintMore
set_option linter.unusedVariables false
set_option linter.unusedSimpArgs false

/-! ### 1. Lists of keys -/
def kput (ks : List Int) (k : Int) : List Int := if k ∈ ks then ks else ks ++ [k]
def kmap (ks : List Int) : List (Int × Bool) := ks.map fun k => (k, true)
theorem kmap_fst (ks : List Int) : (kmap ks).map Prod.fst = ks := by
  unfold kmap
  rw [List.map_map]
  conv => rhs; rw [← List.map_id ks]
  rfl
theorem kmap_len (ks : List Int) : (kmap ks).length = ks.length := by simp [kmap]
theorem kmap_get (ks : List Int) (k : Int) : mget (kmap ks) k = if k ∈ ks then some true else none := by
  induction ks with
  | nil => rfl
  | cons x r ih =>
    show mget ((x, true) :: kmap r) k = _
    rw [mget_cons, ih]
    by_cases h : x = k
    · simp [h]
    · have h' : ¬ k = x := fun e => h e.symm
      simp [h, h']
theorem kmap_put (ks : List Int) (k : Int) : mput (kmap ks) k true = kmap (kput ks k) := by
  induction ks with
  | nil => rfl
  | cons x r ih =>
    show mput ((x, true) :: kmap r) k true = _
    unfold mput
    by_cases h : x = k
    · subst h
      simp [kput, kmap]
    · have h' : ¬ k = x := fun e => h e.symm
      rw [if_neg h, ih]
      unfold kput
      by_cases h2 : k ∈ r
      · simp [h2, kmap]
      · simp [h2, h', kmap]
theorem kmap_put2 (ks : List Int) (k : Int) (z : Bool) : mput (mput (kmap ks) k z) k true = kmap (kput ks k) := by rw [mput_mput, kmap_put]
theorem kmap_del (ks : List Int) (k : Int) : mdel (kmap ks) k = kmap (ks.erase k) := by
  induction ks with
  | nil => rfl
  | cons x r ih =>
    show mdel ((x, true) :: kmap r) k = _
    unfold mdel
    by_cases h : x = k
    · subst h
      simp
    · have h' : ¬ (x == k) = true := by simpa using h
      rw [if_neg h, ih, List.erase_cons, if_neg h']
      rfl
theorem mem_kput {ks : List Int} {k x : Int} : x ∈ kput ks k ↔ x ∈ ks ∨ x = k := by
  unfold kput
  split
  · rename_i h
    constructor
    · exact .inl
    · rintro (h1 | rfl)
      · exact h1
      · exact h
  · simp
theorem kput_nodup {ks : List Int} (h : ks.Nodup) (k : Int) : (kput ks k).Nodup := by
  unfold kput
  split
  · exact h
  · rename_i hn
    rw [List.nodup_append]
    exact ⟨h, by simp, fun a ha b hb => by simp at hb; subst hb; rintro rfl; exact hn ha⟩

/-! ### 2. Elimination -/
abbrev Nbs := List (Option (List Int))
def kOf (G : Nbs) (u : Int) : List Int := (G.getD u.toNat none).getD []
def kSet (G : Nbs) (u : Int) (ks : List Int) : Nbs := G.set u.toNat (some ks)
def kLink (G : Nbs) (u w : Int) : Nbs := let G1 := kSet G u (kput (kOf G u) w); kSet G1 w (kput (kOf G1 w) u)
def elimIn (u : Int) : List Int → Nbs → Int → Nbs × Int
  | [], G, f => (G, f)
  | w :: r, G, f => if w ∈ kOf G u then elimIn u r G f else elimIn u r (kLink G u w) (wrap64 (f + 1))
theorem elimIn_cons (u w : Int) (r : List Int) (G : Nbs) (f : Int) : elimIn u (w :: r) G f = if w ∈ kOf G u then elimIn u r G f else elimIn u r (kLink G u w) (wrap64 (f + 1)) := rfl
def elimGo (v : Int) : List Int → List Int → Nbs → Int → Nbs × Int
  | _, [], G, f => (G, f)
  | done, u :: r, G, f => let s := elimIn u done (kSet G u ((kOf G u).erase v)) f; elimGo v (done ++ [u]) r s.1 s.2
theorem elimGo_cons (v : Int) (done : List Int) (u : Int) (r : List Int) (G : Nbs) (f : Int) : elimGo v done (u :: r) G f = elimGo v (done ++ [u]) r (elimIn u done (kSet G u ((kOf G u).erase v)) f).1 (elimIn u done (kSet G u ((kOf G u).erase v)) f).2 := rfl
def elim (G : Nbs) (v : Int) : Nbs × Int := let s := elimGo v [] (setOf (kOf G v)) G 0; (s.1.set v.toNat none, s.2)
/-- Vertex u is there. -/
def Alive (G : Nbs) (u : Int) : Prop := 0 ≤ u ∧ u.toNat < G.length ∧ ∃ ks, G[u.toNat]? = some (some ks)
theorem Alive.keys {G : Nbs} {u : Int} (h : Alive G u) : G[u.toNat]? = some (some (kOf G u)) := by
  obtain ⟨_, h1, ks, h2⟩ := h
  unfold kOf
  rw [List.getD_eq_getElem?_getD, h2]
  rfl
theorem kSet_length (G : Nbs) (u : Int) (ks : List Int) : (kSet G u ks).length = G.length := by simp [kSet]
theorem kSet_alive {G : Nbs} {u : Int} (hu : Alive G u) (ks : List Int) {x : Int} : Alive (kSet G u ks) x ↔ Alive G x := by
  unfold Alive
  rw [kSet_length]
  constructor
  · rintro ⟨h1, h2, ks', h3⟩
    refine ⟨h1, h2, ?_⟩
    unfold kSet at h3
    rw [List.getElem?_set] at h3
    split at h3
    · rename_i e
      rw [← e]
      exact hu.2.2
    · exact ⟨_, h3⟩
  · rintro ⟨h1, h2, ks', h3⟩
    refine ⟨h1, h2, ?_⟩
    unfold kSet
    rw [List.getElem?_set]
    split
    · exact ⟨ks, by rw [if_pos hu.2.1]⟩
    · exact ⟨_, h3⟩
theorem kOf_kSet {G : Nbs} {u : Int} (hu : Alive G u) (ks : List Int) {x : Int} (hx : 0 ≤ x) : kOf (kSet G u ks) x = if x = u then ks else kOf G x := by
  unfold kOf kSet
  rw [List.getD_eq_getElem?_getD, List.getElem?_set]
  by_cases h : x = u
  · subst h
    rw [if_pos rfl, if_pos hu.2.1, if_pos rfl]
    rfl
  · have : ¬ u.toNat = x.toNat := by
      have := hu.1
      omega
    rw [if_neg this, if_neg h, List.getD_eq_getElem?_getD]
theorem kLink_alive {G : Nbs} {u w : Int} (hu : Alive G u) (hw : Alive G w) {x : Int} : Alive (kLink G u w) x ↔ Alive G x := by
  unfold kLink
  rw [kSet_alive ((kSet_alive hu _).2 hw), kSet_alive hu]
theorem kLink_length (G : Nbs) (u w : Int) : (kLink G u w).length = G.length := by simp [kLink, kSet_length]

/-! ### 3. A slice of maps -/
theorem setCell_size (w : World) (a : Addr) (v : Value) : (w.setCell a v).heap.size = w.heap.size := by simp [World.setCell]
/-- Block B holds, for each vertex, the map of its neighbours in a block of its own, or no map. -/
structure NbIs (w : World) (base B : Nat) (bs : Nat → Nat) (G : Nbs) : Prop where
  cell : ∀ i, i < G.length → w.cell? ⟨B, i, none⟩ = some (.map ((G.getD i none).map fun _ => bs i))
  maps : ∀ i ks, G[i]? = some (some ks) → MapIs (Value.int .i64) Value.bool w (bs i) (kmap ks)
  inj : ∀ i j, i < G.length → j < G.length → bs i = bs j → i = j
  lo : base ≤ B
  los : ∀ i, i < G.length → base ≤ bs i
  ne : ∀ i, i < G.length → bs i ≠ B
  top : B < w.heap.size
  tops : ∀ i, i < G.length → bs i < w.heap.size
  frz : ∀ i, w.frozen? ⟨B, i, none⟩ = false
theorem grown_trans {w w1 w2 : World} {row : Option Nat} (h : w.grownBy w1 row) (h' : w1.grownBy w2 row) : w.grownBy w2 row :=
  ⟨h'.os.trans h.os, h'.tape.trans h.tape, h'.output.trans h.output, Nat.le_trans h.size h'.size, fun k hk hne => (h'.block k (Nat.lt_of_lt_of_le hk h.size) hne).trans (h.block k hk hne)⟩
section
variable {w w1 : World} {base B : Nat} {bs : Nat → Nat} {G : Nbs}
theorem NbIs.cellOf (h : NbIs w base B bs G) {u : Int} (hu : Alive G u) : w.cell? ⟨B, u.toNat, none⟩ = some (.map (some (bs u.toNat))) := by
  rw [h.cell _ hu.2.1, List.getD_eq_getElem?_getD, hu.keys]
  rfl
theorem NbIs.mapOf (h : NbIs w base B bs G) {u : Int} (hu : Alive G u) : MapIs (Value.int .i64) Value.bool w (bs u.toNat) (kmap (kOf G u)) := h.maps _ _ hu.keys
theorem NbIs.below (h : NbIs w base B bs G) (hb : Below w.heap.size w w1) : NbIs w1 base B bs G :=
  ⟨fun i hi => pw_cell_below hb (h.cell i hi), fun i ks hk => (h.maps i ks hk).below hb, h.inj, h.lo, h.los, h.ne, Nat.lt_of_lt_of_le h.top hb.size, fun i hi => Nat.lt_of_lt_of_le (h.tops i hi) hb.size, fun i => (World.frozen?_of_block (hb.block B h.top)).trans (h.frz i)⟩
theorem NbIs.drew (h : NbIs w base B bs G) : NbIs w.drew base B bs G := ⟨h.cell, h.maps, h.inj, h.lo, h.los, h.ne, h.top, h.tops, h.frz⟩
theorem NbIs.drewN (h : NbIs w base B bs G) (n : Nat) : NbIs (w.drewN n) base B bs G := ⟨h.cell, h.maps, h.inj, h.lo, h.los, h.ne, h.top, h.tops, h.frz⟩
theorem NbIs.grown (h : NbIs w base B bs G) {row : Option Nat} (hg : w.grownBy w1 row) (hB : some B ≠ row) (hbs : ∀ i, i < G.length → some (bs i) ≠ row) : NbIs w1 base B bs G :=
  ⟨fun i hi => cell_grown hg (h.cell i hi) hB, fun i ks hk => (h.maps i ks hk).grown hg (hbs i (List.getElem?_eq_some_iff.1 hk).1), h.inj, h.lo, h.los, h.ne, Nat.lt_of_lt_of_le h.top hg.size, fun i hi => Nat.lt_of_lt_of_le (h.tops i hi) hg.size, fun i => (World.frozen?_of_block (hg.block B h.top hB)).trans (h.frz i)⟩
theorem NbIs.upd (h : NbIs w base B bs G) {u : Int} (hu : Alive G u) (ks : List Int) (hg : w.grownBy w1 (some (bs u.toNat))) (hm : MapIs (Value.int .i64) Value.bool w1 (bs u.toNat) (kmap ks)) : NbIs w1 base B bs (kSet G u ks) := by
  refine ⟨fun i hi => ?_, fun i ks' hk => ?_, fun i j hi hj => ?_, h.lo, fun i hi => ?_, fun i hi => ?_, ?_, fun i hi => ?_, fun i => ?_⟩
  · rw [kSet_length] at hi
    have h1 := cell_grown hg (h.cell i hi) (fun e => h.ne _ hu.2.1 (Option.some.inj e).symm)
    rw [h1]
    congr 2
    unfold kSet
    rw [List.getD_eq_getElem?_getD, List.getD_eq_getElem?_getD, List.getElem?_set]
    by_cases e : u.toNat = i
    · subst e
      rw [if_pos rfl, if_pos hi, hu.keys]
      rfl
    · rw [if_neg e]
  · unfold kSet at hk
    rw [List.getElem?_set] at hk
    by_cases e : u.toNat = i
    · rw [if_pos e] at hk
      split at hk
      · injection hk with hk
        injection hk with hk
        rw [← e, ← hk]
        exact hm
      · cases hk
    · rw [if_neg e] at hk
      have hi := (List.getElem?_eq_some_iff.1 hk).1
      exact (h.maps i ks' hk).grown hg (fun x => e (h.inj _ _ hu.2.1 hi (Option.some.inj x).symm))
  · rw [kSet_length] at hi hj
    exact h.inj i j hi hj
  · rw [kSet_length] at hi
    exact h.los i hi
  · rw [kSet_length] at hi
    exact h.ne i hi
  · exact Nat.lt_of_lt_of_le h.top hg.size
  · rw [kSet_length] at hi
    exact Nat.lt_of_lt_of_le (h.tops i hi) hg.size
  · exact (World.frozen?_of_block (hg.block B h.top (fun e => h.ne _ hu.2.1 (Option.some.inj e).symm))).trans (h.frz i)
theorem NbIs.kill (h : NbIs w base B bs G) {v : Int} (hv : Alive G v) : NbIs (w.setCell ⟨B, v.toNat, none⟩ (.map none)) base B bs (G.set v.toNat none) := by
  refine ⟨fun i hi => ?_, fun i ks' hk => ?_, fun i j hi hj => ?_, h.lo, fun i hi => ?_, fun i hi => ?_, ?_, fun i hi => ?_, fun i => ?_⟩
  · rw [List.length_set] at hi
    rw [List.getD_eq_getElem?_getD, List.getElem?_set]
    by_cases e : v.toNat = i
    · subst e
      rw [if_pos rfl, if_pos hi]
      have h1 := h.cell _ hi
      exact World.cell?_setCell_same _ _ _ h1
    · rw [if_neg e, ← List.getD_eq_getElem?_getD]
      refine (World.cell?_setCell_other (h := fun x => ?_) ..).trans (h.cell i hi)
      injection x with _ x
      exact e x
  · rw [List.getElem?_set] at hk
    by_cases e : v.toNat = i
    · rw [if_pos e] at hk
      split at hk <;> cases hk
    · rw [if_neg e] at hk
      exact (h.maps i ks' hk).setCell _ _
  · rw [List.length_set] at hi hj
    exact h.inj i j hi hj
  · rw [List.length_set] at hi
    exact h.los i hi
  · rw [List.length_set] at hi
    exact h.ne i hi
  · rw [setCell_size]
    exact h.top
  · rw [List.length_set] at hi
    rw [setCell_size]
    exact h.tops i hi
  · rw [World.frozen?_setCell]
    exact h.frz i
/-- A store by two halves. -/
theorem NbIs.upd2 {w2 : World} (h : NbIs w base B bs G) {u x : Int} {z : Bool} (hu : Alive G u) (hg1 : w.grownBy w1 (some (bs u.toNat))) (hm1 : MapIs (Value.int .i64) Value.bool w1 (bs u.toNat) (mput (kmap (kOf G u)) x z)) (hg2 : w1.grownBy w2 (some (bs u.toNat)))
    (hm2 : MapIs (Value.int .i64) Value.bool w2 (bs u.toNat) (mput (mput (kmap (kOf G u)) x z) x true)) : NbIs w2 base B bs (kSet G u (kput (kOf G u) x)) := by
  rw [kmap_put2] at hm2
  exact h.upd hu _ (grown_trans hg1 hg2) hm2
end

/-! ### 4. What a call leaves alone, but for the blocks of T -/
structure Bel (T : Nat → Prop) (w w' : World) : Prop where
  os : w'.os = w.os
  tape : w'.tape = w.tape
  output : w'.output = w.output
  size : w.heap.size ≤ w'.heap.size
  block : ∀ k, k < w.heap.size → ¬ T k → w'.heap[k]? = w.heap[k]?
section
variable {T : Nat → Prop} {W w w1 : World}
theorem Bel.refl (T : Nat → Prop) (w : World) : Bel T w w := ⟨rfl, rfl, rfl, Nat.le_refl _, fun _ _ _ => rfl⟩
theorem Bel.trans (h : Bel T W w) {T' : Nat → Prop} (h' : Bel T' w w1) (hT : ∀ k, k < W.heap.size → T' k → T k) : Bel T W w1 :=
  ⟨h'.os.trans h.os, h'.tape.trans h.tape, h'.output.trans h.output, Nat.le_trans h.size h'.size, fun k hk hn => (h'.block k (Nat.lt_of_lt_of_le hk h.size) (fun x => hn (hT k hk x))).trans (h.block k hk hn)⟩
theorem Bel.below (h : Bel T W w) (h' : Below w.heap.size w w1) : Bel T W w1 :=
  ⟨h'.os.trans h.os, h'.tape.trans h.tape, h'.output.trans h.output, Nat.le_trans h.size h'.size, fun k hk hn => (h'.block k (Nat.lt_of_lt_of_le hk h.size)).trans (h.block k hk hn)⟩
theorem Bel.alloc (h : Bel T W w) (o : Obj) : Bel T W (w.alloc o) := h.below ((Below.refl _ _).alloc (Nat.le_refl _) o)
theorem Bel.drew (h : Bel T W w) : Bel T W w.drew := ⟨h.os, h.tape, h.output, h.size, h.block⟩
theorem Bel.grown (h : Bel T W w) {row : Option Nat} (h' : w.grownBy w1 row) (hr : ∀ k, row = some k → T k ∨ W.heap.size ≤ k) : Bel T W w1 :=
  ⟨h'.os.trans h.os, h'.tape.trans h.tape, h'.output.trans h.output, Nat.le_trans h.size h'.size, fun k hk hn => (h'.block k (Nat.lt_of_lt_of_le hk h.size) (fun e => by
    rcases hr k e.symm with h1 | h1
    · exact hn h1
    · omega)).trans (h.block k hk hn)⟩
theorem Bel.setCell (h : Bel T W w) (a : Addr) (v : Value) (ha : T a.block ∨ W.heap.size ≤ a.block) : Bel T W (w.setCell a v) :=
  ⟨h.os, h.tape, h.output, by rw [setCell_size]; exact h.size, fun k hk hn => (Below.heap_setCell w a v k (fun e => by
    rcases ha with h1 | h1
    · exact hn (e ▸ h1)
    · omega)).trans (h.block k hk hn)⟩
theorem Bel.out (h : Bel T W w) {base : Nat} (hb : base ≤ W.heap.size) (hT : ∀ k, T k → base ≤ k) : Below base W w :=
  ⟨h.os, h.tape, h.output, h.size, fun k hk => h.block k (Nat.lt_of_lt_of_le hk hb) (fun x => by have := hT k x; omega)⟩
end
theorem nodup_le : ∀ (n : Nat) (l : List Nat), l.Nodup → (∀ x ∈ l, x < n) → l.length ≤ n
  | 0, l, _, h => by
    cases l with
    | nil => simp
    | cons a r => exact absurd (h a (by simp)) (by omega)
  | n + 1, l, hl, h => by
    have h1 := nodup_le n (l.erase n) (hl.erase n) (fun x hx => by
      have hx' := (List.Nodup.mem_erase_iff hl).1 hx
      have := h x hx'.2
      have := hx'.1
      omega)
    rw [List.length_erase] at h1
    split at h1 <;> omega
theorem kmap_at {ks : List Int} {i : Nat} {k : Int} {v : Bool} (h : (kmap ks)[i]? = some (k, v)) : ∃ hi : i < ks.length, k = ks.getD i 0 := by
  unfold kmap at h
  rw [List.getElem?_map] at h
  have hi : i < ks.length := by
    rcases Nat.lt_or_ge i ks.length with h1 | h1
    · exact h1
    · rw [List.getElem?_eq_none h1] at h
      cases h
  refine ⟨hi, ?_⟩
  rw [List.getElem?_eq_getElem hi] at h
  simp only [Option.map_some, Option.some.injEq, Prod.mk.injEq] at h
  rw [List.getD_eq_getElem?_getD, List.getElem?_eq_getElem hi, ← h.1]
  rfl
theorem keys_le {ks : List Int} {n : Nat} (hnd : ks.Nodup) (h : ∀ x ∈ ks, 0 ≤ x ∧ x.toNat < n) : ks.length ≤ n := by
  have h1 := nodup_le n (ks.map Int.toNat) (by
    unfold List.Nodup at hnd ⊢
    rw [List.pairwise_map]
    exact hnd.imp_of_mem fun {a b} ha hb hne e => hne (by have := (h a ha).1; have := (h b hb).1; omega)) (fun x hx => by
      obtain ⟨y, hy, rfl⟩ := List.mem_map.1 hx
      exact (h y hy).2)
  simpa using h1
theorem setOf_ext {l l' : List Int} (h : ∀ x, x ∈ l ↔ x ∈ l') : setOf l = setOf l' := inc_unique (inc_setOf l) (inc_setOf l') fun x => by rw [mem_setOf, mem_setOf, h x]
theorem setOf_places {ks : List Int} {is : List Nat} (hb : ∀ i ∈ is, i < ks.length) (ha : ∀ i, i < ks.length → i ∈ is) : setOf (is.map fun i => ks.getD i 0) = setOf ks := by
  refine setOf_ext fun x => ?_
  rw [List.mem_map, List.mem_iff_getElem]
  constructor
  · rintro ⟨i, hi, rfl⟩
    exact ⟨i, hb i hi, by simp [List.getElem?_eq_getElem (hb i hi)]⟩
  · rintro ⟨i, hi, rfl⟩
    exact ⟨i, ha i hi, by simp [List.getElem?_eq_getElem hi]⟩
def lenV : Value → Nat
  | .slice _ n _ => n
  | _ => 0
end Go.Proofs.Ytnnknbghfbjcnaa.Print
