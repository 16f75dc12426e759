/- Several texts of this claim in one: HOModel, HRTab. -/
import Derived.Test.YtfnophaiamkmpaaPrint0
import Derived.Test.YtfnophaiamkmpaaM0
import Derived.LoopTactic
import Derived.Test.YtfnophaiamkmpaaM1
namespace Go.Proofs.Ytfnophaiamkmpaa.Print
open Go.RowKit Go.Proofs.YtfnophaiamkmpaaW.PrintWords Go.Proofs.YtfnophaiamkmpaaW.PrintLast Go.Proofs.YtfnophaiamkmpaaW.PrintMore
set_option linter.unusedVariables false
set_option linter.unusedSimpArgs false
/-! ### 1. Lists of keys -/
def kput (ks : List Int) (k : Int) : List Int := if k ∈ ks then ks else ks ++ [k]
def kmap (ks : List Int) : List (Int × Bool) := ks.map fun k => (k, true)
/-! ### 2. Elimination -/
abbrev Nbs := List (Option (List Int))
def kOf (G : Nbs) (u : Int) : List Int := (G.getD u.toNat none).getD []
def kSet (G : Nbs) (u : Int) (ks : List Int) : Nbs := G.set u.toNat (some ks)
def kLink (G : Nbs) (u w : Int) : Nbs := let G1 := kSet G u (kput (kOf G u) w); kSet G1 w (kput (kOf G1 w) u)
def elimIn (u : Int) : List Int → Nbs → Int → Nbs × Int
 | [], G, f => (G, f)
 | w :: r, G, f => if w ∈ kOf G u then elimIn u r G f else elimIn u r (kLink G u w) (wrap64 (f + 1))
def elimGo (v : Int) : List Int → List Int → Nbs → Int → Nbs × Int
 | _, [], G, f => (G, f)
 | done, u :: r, G, f => let s := elimIn u done (kSet G u ((kOf G u).erase v)) f; elimGo v (done ++ [u]) r s.1 s.2
def elim (G : Nbs) (v : Int) : Nbs × Int := let s := elimGo v [] (setOf (kOf G v)) G 0; (s.1.set v.toNat none, s.2)
def Alive (G : Nbs) (u : Int) : Prop := 0 ≤ u ∧ u.toNat < G.length ∧ ∃ ks, G[u.toNat]? = some (some ks)
theorem Alive.keys {G : Nbs} {u : Int} (h : Alive G u) : G[u.toNat]? = some (some (kOf G u)) := by
 obtain ⟨_, h1, ks, h2⟩ := h
 unfold kOf
 rw [List.getD_eq_getElem?_getD, h2]
 rfl
theorem kSet_length (G : Nbs) (u : Int) (ks : List Int) : (kSet G u ks).length = G.length := by simp [kSet]
theorem kSet_alive {G : Nbs} {u : Int} (hu : Alive G u) (ks : List Int) {x : Int} : Alive (kSet G u ks) x ↔ Alive G x := by
 unfold Alive
 rw [kSet_length]
 constructor
 ·rintro ⟨h1, h2, ks', h3⟩
  refine ⟨h1, h2, ?_⟩
  unfold kSet at h3
  rw [List.getElem?_set] at h3
  split at h3
  ·rename_i e
   rw [← e]
   exact hu.2.2
  ·exact ⟨_, h3⟩
 ·rintro ⟨h1, h2, ks', h3⟩
  refine ⟨h1, h2, ?_⟩
  unfold kSet
  rw [List.getElem?_set]
  split
  ·exact ⟨ks, by rw [if_pos hu.2.1]⟩
  ·exact ⟨_, h3⟩
theorem kOf_kSet {G : Nbs} {u : Int} (hu : Alive G u) (ks : List Int) {x : Int} (hx : 0 ≤ x) : kOf (kSet G u ks) x = if x = u then ks else kOf G x := by
 unfold kOf kSet
 rw [List.getD_eq_getElem?_getD, List.getElem?_set]
 by_cases h : x = u
 ·subst h
  rw [if_pos rfl, if_pos hu.2.1, if_pos rfl]
  rfl
 ·have : ¬ u.toNat = x.toNat := by
   have := hu.1
   omega
  rw [if_neg this, if_neg h, List.getD_eq_getElem?_getD]
/-! ### 3. A slice of maps -/
structure NbIs (w : World) (base B : Nat) (bs : Nat → Nat) (G : Nbs) : Prop where
 cell : ∀ i, i < G.length → w.cell? ⟨B, i, none⟩ = some (.map ((G.getD i none).map fun _ => bs i))
 maps : ∀ i ks, G[i]? = some (some ks) → MapIs (Value.int .i64) Value.bool w (bs i) (kmap ks)
 inj : ∀ i j, i < G.length → j < G.length → bs i = bs j → i = j
 lo : base ≤ B
 los : ∀ i, i < G.length → base ≤ bs i
 ne : ∀ i, i < G.length → bs i ≠ B
 top : B < w.heap.size
 tops : ∀ i, i < G.length → bs i < w.heap.size
 frz : ∀ i, w.frozen? ⟨B, i, none⟩ = false
section
variable {w w1 : World} {base B : Nat} {bs : Nat → Nat} {G : Nbs}
theorem NbIs.below (h : NbIs w base B bs G) (hb : Below w.heap.size w w1) : NbIs w1 base B bs G :=
 ⟨fun i hi => pw_cell_below hb (h.cell i hi), fun i ks hk => (h.maps i ks hk).below hb, h.inj, h.lo, h.los, h.ne, Nat.lt_of_lt_of_le h.top hb.size, fun i hi => Nat.lt_of_lt_of_le (h.tops i hi) hb.size, fun i => (World.frozen?_of_block (hb.block B h.top)).trans (h.frz i)⟩
theorem NbIs.drew (h : NbIs w base B bs G) : NbIs w.drew base B bs G := ⟨h.cell, h.maps, h.inj, h.lo, h.los, h.ne, h.top, h.tops, h.frz⟩
theorem NbIs.drewN (h : NbIs w base B bs G) (n : Nat) : NbIs (w.drewN n) base B bs G := ⟨h.cell, h.maps, h.inj, h.lo, h.los, h.ne, h.top, h.tops, h.frz⟩
theorem NbIs.grown (h : NbIs w base B bs G) {row : Option Nat} (hg : w.grownBy w1 row) (hB : some B ≠ row) (hbs : ∀ i, i < G.length → some (bs i) ≠ row) : NbIs w1 base B bs G :=
 ⟨fun i hi => cell_grown hg (h.cell i hi) hB, fun i ks hk => (h.maps i ks hk).grown hg (hbs i (List.getElem?_eq_some_iff.1 hk).1), h.inj, h.lo, h.los, h.ne, Nat.lt_of_lt_of_le h.top hg.size, fun i hi => Nat.lt_of_lt_of_le (h.tops i hi) hg.size, fun i => (World.frozen?_of_block (hg.block B h.top hB)).trans (h.frz i)⟩
end
def KNd (G : Nbs) : Prop := ∀ x, Alive G x → (kOf G x).Nodup
theorem KNd.kSet {G : Nbs} (h : KNd G) {u : Int} (hu : Alive G u) {ks : List Int} (hk : ks.Nodup) : KNd (kSet G u ks) := fun x hx => by
 rw [kOf_kSet hu ks hx.1]
 split
 ·exact hk
 ·exact h x ((kSet_alive hu ks).1 hx)
abbrev Mat := Nat → Nat → Bool
def mset (M : Mat) (u x : Nat) : Mat := fun i j => if i = u ∧ j = x then true else M i j
def gset (g : Nat → Bool) (v : Nat) : Nat → Bool := fun i => if i = v then true else g i
structure TbIs (w : World) (base R : Nat) (rb : Nat → Nat) (Gb n : Nat) (M : Mat) (g : Nat → Bool) : Prop where
 row : ∀ i, i < n → w.cell? ⟨R, i, none⟩ = some (.slice (some ⟨rb i, 0, none⟩) n n)
 cel : ∀ i, i < n → ∀ j, j < n → w.cell? ⟨rb i, j, none⟩ = some (.bool (M i j))
 gon : ∀ i, i < n → w.cell? ⟨Gb, i, none⟩ = some (.bool (g i))
 inj : ∀ i j, i < n → j < n → rb i = rb j → i = j
 ne : ∀ i, i < n → rb i ≠ R ∧ rb i ≠ Gb
 neg : R ≠ Gb
 lo : base ≤ Gb
 los : ∀ i, i < n → base ≤ rb i
 frz : ∀ i, i < n → ∀ j, w.frozen? ⟨rb i, j, none⟩ = false
 frg : ∀ j, w.frozen? ⟨Gb, j, none⟩ = false
 top : R < w.heap.size ∧ Gb < w.heap.size
 tops : ∀ i, i < n → rb i < w.heap.size
section
variable {w w1 : World} {base R Gb n : Nat} {rb : Nat → Nat} {M : Mat} {g : Nat → Bool}
theorem TbIs.keep (h : TbIs w base R rb Gb n M g) (hs : w.heap.size ≤ w1.heap.size) (hR : w1.heap[R]? = w.heap[R]?) (hG : w1.heap[Gb]? = w.heap[Gb]?) (hb : ∀ i, i < n → w1.heap[rb i]? = w.heap[rb i]?) : TbIs w1 base R rb Gb n M g := by
 have hc : ∀ (b i : Nat), w1.heap[b]? = w.heap[b]? → w1.cell? ⟨b, i, none⟩ = w.cell? ⟨b, i, none⟩ := fun b i e => by unfold World.cell?; rw [e]
 exact ⟨fun i hi => (hc R i hR).trans (h.row i hi), fun i hi j hj => (hc _ j (hb i hi)).trans (h.cel i hi j hj), fun i hi => (hc Gb i hG).trans (h.gon i hi), h.inj, h.ne, h.neg, h.lo, h.los,
  fun i hi j => (World.frozen?_of_block (hb i hi)).trans (h.frz i hi j), fun j => (World.frozen?_of_block hG).trans (h.frg j), ⟨Nat.lt_of_lt_of_le h.top.1 hs, Nat.lt_of_lt_of_le h.top.2 hs⟩, fun i hi => Nat.lt_of_lt_of_le (h.tops i hi) hs⟩
theorem TbIs.below (h : TbIs w base R rb Gb n M g) (hb : Below w.heap.size w w1) : TbIs w1 base R rb Gb n M g := h.keep hb.size (hb.block _ h.top.1) (hb.block _ h.top.2) (fun i hi => hb.block _ (h.tops i hi))
theorem TbIs.drew (h : TbIs w base R rb Gb n M g) : TbIs w.drew base R rb Gb n M g := h.keep (Nat.le_refl _) rfl rfl (fun _ _ => rfl)
theorem TbIs.drewN (h : TbIs w base R rb Gb n M g) (q : Nat) : TbIs (w.drewN q) base R rb Gb n M g := h.keep (Nat.le_refl _) rfl rfl (fun _ _ => rfl)
theorem TbIs.setRow (h : TbIs w base R rb Gb n M g) {u x : Nat} (hu : u < n) (hx : x < n) : TbIs (w.setCell ⟨rb u, x, none⟩ (.bool true)) base R rb Gb n (mset M u x) g := by
 have hne := h.ne u hu
 refine ⟨fun i hi => ?_, fun i hi j hj => ?_, fun i hi => ?_, h.inj, h.ne, h.neg, h.lo, h.los, fun i hi j => ?_, fun j => ?_, ?_, fun i hi => ?_⟩
 ·refine (World.cell?_setCell_other (h := fun e => ?_) ..).trans (h.row i hi)
  injection e with e
  exact hne.1 e
 ·unfold mset
  by_cases e : i = u ∧ j = x
  ·obtain ⟨rfl, rfl⟩ := e
   rw [if_pos ⟨rfl, rfl⟩]
   exact World.cell?_setCell_same _ _ _ (h.cel i hi j hj)
  ·rw [if_neg e]
   refine (World.cell?_setCell_other (h := fun e2 => e ?_) ..).trans (h.cel i hi j hj)
   injection e2 with e2 e3
   exact ⟨(h.inj _ _ hu hi e2).symm, e3.symm⟩
 ·refine (World.cell?_setCell_other (h := fun e => ?_) ..).trans (h.gon i hi)
  injection e with e
  exact hne.2 e
 ·rw [World.frozen?_setCell]
  exact h.frz i hi j
 ·rw [World.frozen?_setCell]
  exact h.frg j
 ·rw [setCell_size]
  exact h.top
 ·rw [setCell_size]
  exact h.tops i hi
theorem TbIs.setGone (h : TbIs w base R rb Gb n M g) {v : Nat} (hv : v < n) : TbIs (w.setCell ⟨Gb, v, none⟩ (.bool true)) base R rb Gb n M (gset g v) := by
 refine ⟨fun i hi => ?_, fun i hi j hj => ?_, fun i hi => ?_, h.inj, h.ne, h.neg, h.lo, h.los, fun i hi j => ?_, fun j => ?_, ?_, fun i hi => ?_⟩
 ·refine (World.cell?_setCell_other (h := fun e => ?_) ..).trans (h.row i hi)
  injection e with e
  exact h.neg e.symm
 ·refine (World.cell?_setCell_other (h := fun e => ?_) ..).trans (h.cel i hi j hj)
  injection e with e
  exact (h.ne i hi).2 e.symm
 ·unfold gset
  by_cases e : i = v
  ·subst e
   rw [if_pos rfl]
   exact World.cell?_setCell_same _ _ _ (h.gon i hi)
  ·rw [if_neg e]
   refine (World.cell?_setCell_other (h := fun e2 => e ?_) ..).trans (h.gon i hi)
   injection e2 with _ e3
   exact e3.symm
 ·rw [World.frozen?_setCell]
  exact h.frz i hi j
 ·rw [World.frozen?_setCell]
  exact h.frg j
 ·rw [setCell_size]
  exact h.top
 ·rw [setCell_size]
  exact h.tops i hi
end
def TbT (Gb : Nat) (rb : Nat → Nat) (n : Nat) (k : Nat) : Prop := k = Gb ∨ ∃ i, i < n ∧ k = rb i
def tabV (R c Gb n : Nat) : Value := .agg #[.slice (some ⟨R, 0, none⟩) n c, .slice (some ⟨Gb, 0, none⟩) n n]
def tIn (v u : Nat) (g : Nat → Bool) : Nat → Nat → Mat → Int → Mat × Int
 | 0, _, M, c => (M, c)
 | d + 1, x, M, c => if M v u = true ∧ M v x = true ∧ g u = false ∧ g x = false ∧ M u x = false then tIn v u g d (x + 1) (mset (mset M u x) x u) (wrap64 (c + 1)) else tIn v u g d (x + 1) M c
def tOut (v n : Nat) (g : Nat → Bool) : Nat → Nat → Mat → Int → Mat × Int
 | 0, _, M, c => (M, c)
 | d + 1, u, M, c => tOut v n g d (u + 1) (tIn v u g (n - (u + 1)) (u + 1) M c).1 (tIn v u g (n - (u + 1)) (u + 1) M c).2
def tElim (M : Mat) (g : Nat → Bool) (v n : Nat) : Mat × Int := tOut v n (gset g v) n 0 M 0
set_option maxHeartbeats 3200000 in
set_option maxRecDepth 100000 in
theorem Eliminate.calls (base R c Gb n : Nat) (rb : Nat → Nat) (M : Mat) (g : Nat → Bool) (v : Nat) (w : World) (h : TbIs w base R rb Gb n M g) (hv : v < n) (hn : n ≤ 20000) (hc : n ≤ c) :
  Calls Try.prog 63 #[tabV R c Gb n, .int .i64 v] w fun e w' => e = .returned (.int .i64 (tElim M g v n).2) ∧ TbIs w' base R rb Gb n (tElim M g v n).1 (gset g v) ∧ Bel (TbT Gb rb n) w w' := by
 have HT := Aside0.mk h
 clear h
 unfold tabV
 have hcg := (HT.out.below ((Below.refl _ _).alloc (Nat.le_refl _) (.cells #[.slice (some ⟨R, 0, none⟩) n c, .slice (some ⟨Gb, 0, none⟩) n n] 111 (0, 0)))).gon v hv
 have hfg := (HT.out.below ((Below.refl _ _).alloc (Nat.le_refl _) (.cells #[.slice (some ⟨R, 0, none⟩) n c, .slice (some ⟨Gb, 0, none⟩) n n] 111 (0, 0)))).frg v
 go_enter Try.func63, Try.ntmps63
 go_wp2
 clear hcg hfg
 have HT0 := Aside0.mk ((HT.out.below ((Below.refl _ _).alloc (Nat.le_refl _) (.cells #[.slice (some ⟨R, 0, none⟩) n c, .slice (some ⟨Gb, 0, none⟩) n n] 111 (0, 0)))).setGone hv)
 have HNB : Aside0 (w.heap.size ≠ Gb ∧ ∀ i, i < n → w.heap.size ≠ rb i) := ⟨⟨by have := HT.out.top.2; omega, fun i hi => by have := HT.out.tops i hi; omega⟩⟩
 have HK0 : Aside0 (((w.alloc (.cells #[.slice (some ⟨R, 0, none⟩) n c, .slice (some ⟨Gb, 0, none⟩) n n] 111 (0, 0))).setCell ⟨Gb, v, none⟩ (.bool true)).heap[w.heap.size]? = some (.cells #[.slice (some ⟨R, 0, none⟩) n c, .slice (some ⟨Gb, 0, none⟩) n n] 111 (0, 0))) := ⟨by
  rw [Below.heap_setCell _ _ _ _ HNB.out.1]
  exact heap_alloc_new w _⟩
 have HE0 := Aside0.mk (((Bel.refl (TbT Gb rb n) w).alloc (.cells #[.slice (some ⟨R, 0, none⟩) n c, .slice (some ⟨Gb, 0, none⟩) n n] 111 (0, 0))).setCell ⟨Gb, v, none⟩ (.bool true) (.inl (.inl rfl)))
 go_loopw [5, 6] (fun s i wr => ∃ (u : Nat) (Mu : Mat) (cu : Int), i = .int .i64 u ∧ u ≤ n ∧ s = .int .i64 cu ∧ Aside0 (tOut v n (gset g v) (n - u) u Mu cu = tElim M g v n) ∧ Aside0 (TbIs wr base R rb Gb n Mu (gset g v)) ∧
  Aside0 (wr.heap[w.heap.size]? = some (.cells #[.slice (some ⟨R, 0, none⟩) n c, .slice (some ⟨Gb, 0, none⟩) n n] 111 (0, 0))) ∧ Aside0 (Bel (TbT Gb rb n) w wr)) (fun _ i _ => n - (intOf i).toNat)
 case atStart => exact ⟨0, M, 0, rfl, Nat.zero_le _, rfl, ⟨rfl⟩, HT0, HK0, HE0⟩
 case round =>
  clear HT0 HK0 HE0
  obtain ⟨u, Mu, cu, rfl, hu, rfl, HF, HTu, HK, HE⟩ := hrel
  have hbk0 := (blk_cell HK.out 0).trans rfl
  by_cases hlt : u < n
  ·have HF1 : Aside0 (∀ Mx cx, tIn v u (gset g v) (n - (u + 1)) (u + 1) Mu cu = (Mx, cx) → tOut v n (gset g v) (n - (u + 1)) (u + 1) Mx cx = tElim M g v n) := ⟨fun Mx cx hx => by
    rw [← HF.out, show n - u = (n - (u + 1)) + 1 by omega]
    conv => rhs; unfold tOut
    rw [hx]⟩
   go_wp2
   clear hbk0
   go_loopw [5, 7] (fun s i wr => ∃ (x : Nat) (Mx : Mat) (cx : Int), i = .int .i64 x ∧ u < x ∧ x ≤ n ∧ s = .int .i64 cx ∧ Aside0 (tIn v u (gset g v) (n - x) x Mx cx = tIn v u (gset g v) (n - (u + 1)) (u + 1) Mu cu) ∧ Aside0 (TbIs wr base R rb Gb n Mx (gset g v)) ∧
    Aside0 (wr.heap[w.heap.size]? = some (.cells #[.slice (some ⟨R, 0, none⟩) n c, .slice (some ⟨Gb, 0, none⟩) n n] 111 (0, 0))) ∧ Aside0 (Bel (TbT Gb rb n) w wr)) (fun _ i _ => n - (intOf i).toNat)
   case atStart => exact ⟨u + 1, Mu, cu, by go_num, by omega, by omega, rfl, ⟨rfl⟩, HTu, HK, HE⟩
   case round =>
    clear HTu HK HE HF
    obtain ⟨x, Mx, cx, rfl, hux, hx, rfl, HG, HTx, HK, HE⟩ := hrel
    have hbk0 := (blk_cell HK.out 0).trans rfl
    have hbk1 := (blk_cell HK.out 1).trans rfl
    by_cases hxn : x < n
    ·have hstep : tIn v u (gset g v) (n - x) x Mx cx = if Mx v u = true ∧ Mx v x = true ∧ gset g v u = false ∧ gset g v x = false ∧ Mx u x = false then tIn v u (gset g v) (n - (x + 1)) (x + 1) (mset (mset Mx u x) x u) (wrap64 (cx + 1)) else tIn v u (gset g v) (n - (x + 1)) (x + 1) Mx cx := by
      rw [show n - x = (n - (x + 1)) + 1 by omega]
      rfl
     have HG1 := HG.out
     rw [hstep] at HG1
     have hrv := HTx.out.row v hv
     have hru := HTx.out.row u hlt
     have hcu := HTx.out.cel v hv u hlt
     have hcx := HTx.out.cel v hv x hxn
     have hgu := HTx.out.gon u hlt
     have hgx := HTx.out.gon x hxn
     have hux2 := HTx.out.cel u hlt x hxn
     clear hstep
     cases h1 : Mx v u with
     | false =>
      rw [h1] at hcu
      rw [if_neg (fun h => by rw [h1] at h; exact absurd h.1 (by simp))] at HG1
      have HG2 := Aside0.mk HG1
      clear HG1 h1 hcx hgu hgx hux2 hru
      go_wp2
      go_roundw
      case rel => exact ⟨x + 1, Mx, cx, by go_num, by omega, by omega, rfl, HG2, HTx, HK, HE⟩
      case measure => simp [intOf]; omega
     | true =>
      cases h2 : Mx v x with
      | false =>
       rw [h1] at hcu
       rw [h2] at hcx
       rw [if_neg (fun h => by rw [h2] at h; exact absurd h.2.1 (by simp))] at HG1
       have HG2 := Aside0.mk HG1
       clear HG1 h1 h2 hgu hgx hux2 hru
       go_wp2
       go_roundw
       case rel => exact ⟨x + 1, Mx, cx, by go_num, by omega, by omega, rfl, HG2, HTx, HK, HE⟩
       case measure => simp [intOf]; omega
      | true =>
       cases h3 : gset g v u with
       | true =>
        rw [h1] at hcu
        rw [h2] at hcx
        rw [h3] at hgu
        rw [if_neg (fun h => by rw [h3] at h; exact absurd h.2.2.1 (by simp))] at HG1
        have HG2 := Aside0.mk HG1
        clear HG1 h1 h2 h3 hgx hux2 hru
        go_wp2
        go_roundw
        case rel => exact ⟨x + 1, Mx, cx, by go_num, by omega, by omega, rfl, HG2, HTx, HK, HE⟩
        case measure => simp [intOf]; omega
       | false =>
        cases h4 : gset g v x with
        | true =>
         rw [h1] at hcu
         rw [h2] at hcx
         rw [h3] at hgu
         rw [h4] at hgx
         rw [if_neg (fun h => by rw [h4] at h; exact absurd h.2.2.2.1 (by simp))] at HG1
         have HG2 := Aside0.mk HG1
         clear HG1 h1 h2 h3 h4 hux2 hru
         go_wp2
         go_roundw
         case rel => exact ⟨x + 1, Mx, cx, by go_num, by omega, by omega, rfl, HG2, HTx, HK, HE⟩
         case measure => simp [intOf]; omega
        | false =>
         cases h5 : Mx u x with
         | true =>
          rw [h1] at hcu
          rw [h2] at hcx
          rw [h3] at hgu
          rw [h4] at hgx
          rw [h5] at hux2
          rw [if_neg (fun h => by rw [h5] at h; exact absurd h.2.2.2.2 (by simp))] at HG1
          have HG2 := Aside0.mk HG1
          clear HG1 h1 h2 h3 h4 h5
          go_wp2
          go_roundw
          case rel => exact ⟨x + 1, Mx, cx, by go_num, by omega, by omega, rfl, HG2, HTx, HK, HE⟩
          case measure => simp [intOf]; omega
         | false =>
          rw [if_pos ⟨h1, h2, h3, h4, h5⟩] at HG1
          rw [h1] at hcu
          rw [h2] at hcx
          rw [h3] at hgu
          rw [h4] at hgx
          rw [h5] at hux2
          have HG2 := Aside0.mk HG1
          have hfu := HTx.out.frz u hlt x
          clear HG1 h1 h2 h3 h4 h5
          go_upto_region 11 with (fail)
          have HT5 := Aside0.mk (HTx.out.setRow hlt hxn)
          have HK5 : Aside0 ((wr.setCell ⟨rb u, x, none⟩ (.bool true)).heap[w.heap.size]? = some (.cells #[.slice (some ⟨R, 0, none⟩) n c, .slice (some ⟨Gb, 0, none⟩) n n] 111 (0, 0))) := ⟨by
           rw [Below.heap_setCell _ _ _ _ (HNB.out.2 u hlt)]
           exact HK.out⟩
          have HE5 := Aside0.mk (HE.out.setCell ⟨rb u, x, none⟩ (.bool true) (.inl (.inr ⟨u, hlt, rfl⟩)))
          generalize wr.setCell ⟨rb u, x, none⟩ (.bool true) = w5 at HT5 HK5 HE5 ⊢
          clear hcu hcx hgu hgx hux2 hrv hru hfu hbk0 hbk1
          have hrx := HT5.out.row x hxn
          have hxu := HT5.out.cel x hxn u hlt
          have hfx := HT5.out.frz x hxn u
          have hbk0 := (blk_cell HK5.out 0).trans rfl
          go_wp2
          go_roundw
          case rel =>
           exact ⟨x + 1, mset (mset Mx u x) x u, wrap64 (cx + 1), by go_num, by omega, by omega, rfl, HG2, ⟨HT5.out.setRow hxn hlt⟩, ⟨by
            rw [Below.heap_setCell _ _ _ _ (HNB.out.2 x hxn)]
            exact HK5.out⟩, ⟨HE5.out.setCell ⟨rb x, u, none⟩ (.bool true) (.inl (.inr ⟨x, hxn, rfl⟩))⟩⟩
          case measure => simp [intOf]; omega
    ·have hx2 : x = n := by omega
     have HG1 := HG.out
     rw [hx2, Nat.sub_self] at HG1
     have HF2 := Aside0.mk (HF1.out Mx cx HG1.symm)
     clear HG1
     subst hx2
     go_wp2
     go_roundw
     case rel => exact ⟨u + 1, Mx, cx, by go_num, by omega, rfl, HF2, HTx, HK, HE⟩
     case measure => simp [intOf]; omega
  ·have hk2 : u = n := by omega
   have HF1 := HF.out
   rw [hk2, Nat.sub_self] at HF1
   have HF2 := Aside0.mk (show tElim M g v n = (Mu, cu) from HF1.symm)
   clear HF1
   subst hk2
   go_wp2
   go_ret
   rw [HF2.out]
   exact ⟨rfl, HTu.out, HE.out⟩
end Go.Proofs.Ytfnophaiamkmpaa.Print
