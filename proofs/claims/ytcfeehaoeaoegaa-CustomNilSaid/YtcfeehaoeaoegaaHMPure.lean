/- What the weights of a metric need, from the graph and the order alone. -/
import Derived.Test.YtcfeehaoeaoegaaHMNew
namespace Go.Proofs.Ytcfeehaoeaoegaa.Print
open Go.RowKit Go.Proofs.YtcfeehaoeaoegaaW.PrintWords Go.Proofs.YtcfeehaoeaoegaaW.PrintLast Go.Proofs.YtcfeehaoeaoegaaW.PrintMore
set_option linter.unusedVariables false
set_option linter.unusedSimpArgs false

theorem rfind_rng (es : List S38) (u v : Int) : (0 < es.length ∨ (rfind es u v).2 = true) → 0 ≤ (rfind es u v).1 ∧ (rfind es u v).1 < (es.length : Int) := by
  intro h
  unfold rfind at h ⊢
  cases hf : es.findIdx? (isE2 u v) with
  | none =>
    rw [hf] at h
    simp only [Option.map_none, Option.getD_none, Bool.false_eq_true, or_false] at h ⊢
    omega
  | some i =>
    have hi : i < es.length := (List.findIdx?_eq_some_iff_getElem.1 hf).1
    simp only [Option.map_some, Option.getD_some]
    omega
theorem over_nn {a b : Int} (ha : 0 ≤ a) (hb : 0 ≤ b) : 0 ≤ over a b := by
  unfold over mInf
  split <;> omega
theorem arcStep_rng {arcs : List S38} {ws : List Int} {f0 : Int} {s : Int × Int} {i : Int} (h : (0 ≤ s.1 ∧ s.1 ≤ mInf) ∧ (0 ≤ s.2 ∧ s.2 ≤ mInf)) : (0 ≤ (arcStep arcs ws f0 s i).1 ∧ (arcStep arcs ws f0 s i).1 ≤ mInf) ∧ (0 ≤ (arcStep arcs ws f0 s i).2 ∧ (arcStep arcs ws f0 s i).2 ≤ mInf) := by
  unfold arcStep
  split
  · exact h
  · split
    · dsimp only; omega
    · dsimp only; omega
theorem arcsS_rng (arcs : List S38) (ws : List Int) (f0 : Int) : ∀ (l : List Int) (s : Int × Int), ((0 ≤ s.1 ∧ s.1 ≤ mInf) ∧ (0 ≤ s.2 ∧ s.2 ≤ mInf)) → (0 ≤ (l.foldl (arcStep arcs ws f0) s).1 ∧ (l.foldl (arcStep arcs ws f0) s).1 ≤ mInf) ∧ (0 ≤ (l.foldl (arcStep arcs ws f0) s).2 ∧ (l.foldl (arcStep arcs ws f0) s).2 ≤ mInf)
  | [], s, h => h
  | x :: l, s, h => arcsS_rng arcs ws f0 l _ (arcStep_rng h)
theorem lowStep_rng {fnd : Int → Int → Int} {up dn : List Int} {f0 f1 : Int} (hu : ∀ x ∈ up, 0 ≤ x ∧ x ≤ mInf) (hd : ∀ x ∈ dn, 0 ≤ x ∧ x ≤ mInf) : ∀ (l : List Int) (s : Int × Int), ((0 ≤ s.1 ∧ s.1 ≤ mInf) ∧ (0 ≤ s.2 ∧ s.2 ≤ mInf)) → (0 ≤ (l.foldl (lowStep fnd up dn f0 f1) s).1 ∧ (l.foldl (lowStep fnd up dn f0 f1) s).1 ≤ mInf) ∧ (0 ≤ (l.foldl (lowStep fnd up dn f0 f1) s).2 ∧ (l.foldl (lowStep fnd up dn f0 f1) s).2 ≤ mInf)
  | [], s, h => h
  | x :: l, s, h => by
    refine lowStep_rng hu hd l _ ?_
    unfold lowStep
    have h1 := over_nn (getD_bound hd (fnd x f0).toNat).1 (getD_bound hu (fnd x f1).toNat).1
    have h2 := over_nn (getD_bound hd (fnd x f1).toNat).1 (getD_bound hu (fnd x f0).toNat).1
    dsimp only
    omega
theorem weightsS_rng {n : Nat} {arcs : List S38} {R : List Int} {S : HSt} {ws : List Int} {ar : List (List Int)} {up dn : List Int} (hu : ∀ x ∈ up, 0 ≤ x ∧ x ≤ mInf) (hd : ∀ x ∈ dn, 0 ≤ x ∧ x ≤ mInf) (e : Nat) :
    (0 ≤ (weightsS n arcs R S ws ar up dn e).1 ∧ (weightsS n arcs R S ws ar up dn e).1 ≤ mInf) ∧ (0 ≤ (weightsS n arcs R S ws ar up dn e).2 ∧ (weightsS n arcs R S ws ar up dn e).2 ≤ mInf) := by
  unfold weightsS
  refine lowStep_rng hu hd _ _ ?_
  unfold arcsS
  exact arcsS_rng _ _ _ _ _ ⟨⟨by decide, by decide⟩, ⟨by decide, by decide⟩⟩
theorem mem_set_or {l : List Int} {i : Nat} {x y : Int} (h : y ∈ l.set i x) : y ∈ l ∨ y = x := List.mem_or_eq_of_mem_set h
theorem sidesTo_rng (n : Nat) (arcs : List S38) (R : List Int) (S : HSt) (ws : List Int) (ar : List (List Int)) : ∀ k, (∀ x ∈ (sidesTo n arcs R S ws ar k).1, 0 ≤ x ∧ x ≤ mInf) ∧ (∀ x ∈ (sidesTo n arcs R S ws ar k).2, 0 ≤ x ∧ x ≤ mInf)
  | 0 => by
    have h0 : (0 : Int) ≤ 0 ∧ (0 : Int) ≤ mInf := ⟨by decide, by decide⟩
    exact ⟨fun x hx => by rw [List.eq_of_mem_replicate hx]; exact h0, fun x hx => by rw [List.eq_of_mem_replicate hx]; exact h0⟩
  | k + 1 => by
    have ih := sidesTo_rng n arcs R S ws ar k
    have hw := weightsS_rng (n := n) (arcs := arcs) (R := R) (S := S) (ws := ws) (ar := ar) ih.1 ih.2 k
    exact ⟨fun x hx => by
      rcases mem_set_or hx with h | rfl
      · exact ih.1 x h
      · exact hw.1, fun x hx => by
      rcases mem_set_or hx with h | rfl
      · exact ih.2 x h
      · exact hw.2⟩
theorem arcsTo_rng (n : Nat) (arcs : List S38) (R : List Int) (S : HSt) : ∀ k e, ∀ i ∈ (arcsTo n arcs R S k).getD e [], 0 ≤ i ∧ i < (k : Int)
  | 0, e => by
    intro i hi
    unfold arcsTo at hi
    by_cases h : e < S.edges.length
    · simp [h] at hi
    · simp [h] at hi
  | k + 1, e => by
    intro i hi
    have h1 := arcsTo_rng n arcs R S k
    unfold arcsTo at hi
    split at hi
    · unfold hpush at hi
      rw [getD_set_list] at hi
      split at hi
      · rw [List.mem_append, List.mem_singleton] at hi
        rcases hi with hi | rfl
        · have := h1 _ i hi
          omega
        · omega
      · have := h1 _ i hi
        omega
    · have := h1 _ i hi
      omega
theorem dchk_ok {N : Int} {arcs : List S38} {w : List Int} (h : dchk N arcs w = 0) : chk N arcs = 0 ∧ w.length = arcs.length ∧ ∀ x ∈ w, -1 ≤ x ∧ x ≤ 1073741824 := by
  unfold dchk at h
  split at h
  · rename_i h1
    exact absurd h h1
  · rename_i h1
    split at h
    · cases h
    · rename_i h2
      split at h
      · cases h
      · rename_i h3
        refine ⟨Classical.not_not.1 h1, Classical.not_not.1 h2, fun x hx => ?_⟩
        by_cases hb : -1 ≤ x ∧ x ≤ 1073741824
        · exact hb
        · exact absurd (findIdx_some_iff.2 ⟨x, hx, by unfold oddW; rw [decide_eq_true_eq]; omega⟩) h3
section
variable {n : Nat} {arcs : List S38} {L : List Int}
/-- The arcs of each edge of a hierarchy. -/
def arS (n : Nat) (arcs : List S38) (L : List Int) : List (List Int) := arcsTo n arcs (ranksTo L L.length) (hierS n arcs L) arcs.length
/-- The weights of both directions, after k edges. -/
def sdTo (n : Nat) (arcs : List S38) (L ws : List Int) (k : Nat) : List Int × List Int := sidesTo n arcs (ranksTo L L.length) (hierS n arcs L) ws (arS n arcs L) k
def sdS (n : Nat) (arcs : List S38) (L ws : List Int) : List Int × List Int := sdTo n arcs L ws (hierS n arcs L).edges.length
theorem Hk.fnd (h : Hk n arcs L) (u v : Int) (hf : (findS n (ranksTo L L.length) (hierS n arcs L) u v).2 = true) : 0 ≤ (findS n (ranksTo L L.length) (hierS n arcs L) u v).1 ∧ (findS n (ranksTo L L.length) (hierS n arcs L) u v).1 < ((hierS n arcs L).edges.length : Int) := by
  rw [← h.find] at hf ⊢
  exact rfind_rng _ _ _ (.inr hf)
theorem Hk.capd6 (h : Hk n arcs L) (hn : n ≤ 1000) (v : Nat) : ((hierS n arcs L).downs.getD v []).length ≤ 1000000 := by
  have h1 := h.short hn
  by_cases hv : v < n
  · rw [h.inv.downs v hv]
    have := dnL_len (hierS n arcs L).edges v
    omega
  · rw [List.getD_eq_getElem?_getD, List.getElem?_eq_none (by rw [h.inv.lend]; omega)]
    simp
theorem Hk.few (h : Hk n arcs L) : (hierS n arcs L).edges.length ≤ n * n := by
  rw [h.edges, List.length_map]
  have h1 : ∀ r, r ≤ n → (rankEdges (plS L (hk0 n L (nbRows n arcs))) r).length ≤ r * n := fun r => by
    induction r with
    | zero => intro _; simp [rankEdges]
    | succ r ih =>
      intro hr
      have h2 := ih (by omega)
      have h3 : (plS L (hk0 n L (nbRows n arcs)) r).length ≤ n := inc_len_n (inc_setOf _) (fun x hx => by
        have := pl_rng (hk0_len h.ord (NGood.start h.chk)) (hk0_up h.ord (NGood.start h.chk)) (show r < n by omega) x hx
        omega)
      unfold rankEdges
      rw [List.length_append, List.length_map, Nat.add_mul]
      omega
  exact h1 n (Nat.le_refl _)
/-- An edge's weights need what they find. -/
theorem Hk.need (h : Hk n arcs L) (hn : n ≤ 1000) (hal : arcs.length ≤ 1000000) {ws : List Int} (hwl : ws.length = arcs.length) {up dn : List Int} (hup : up.length = (hierS n arcs L).edges.length) (hdn : dn.length = (hierS n arcs L).edges.length) (hu : ∀ x ∈ up, 0 ≤ x ∧ x ≤ mInf) (hd : ∀ x ∈ dn, 0 ≤ x ∧ x ≤ mInf) {e : Nat} (he : e < (hierS n arcs L).edges.length) :
    WNeed n arcs (ranksTo L L.length) (hierS n arcs L) ws (arS n arcs L) up dn e := by
  refine ⟨he, h.short hn, hal, arcsTo_len _ _ _ _ _, hwl, hup, hdn, fun i hi => arcsTo_rng _ _ _ _ _ _ i hi, ?_, hu, hd, ?_, fun x hx v hv => ?_⟩
  · have := arcsTo_cap n arcs (ranksTo L L.length) (hierS n arcs L) arcs.length e
    unfold arS
    omega
  · unfold lowerS
    split
    · exact Nat.le_trans (List.length_filter_le _ _) (h.capd6 hn _)
    · simp
  · rw [← h.find]
    exact rfind_rng _ _ _ (.inl (by omega))
theorem Hk.needs (h : Hk n arcs L) (hn : n ≤ 1000) (hal : arcs.length ≤ 1000000) {ws : List Int} (hd : dchk (n : Int) arcs ws = 0) (k : Nat) (hk : k < (hierS n arcs L).edges.length) :
    WNeed n arcs (ranksTo L L.length) (hierS n arcs L) ws (arcsTo n arcs (ranksTo L L.length) (hierS n arcs L) arcs.length) (sidesTo n arcs (ranksTo L L.length) (hierS n arcs L) ws (arcsTo n arcs (ranksTo L L.length) (hierS n arcs L) arcs.length) k).1 (sidesTo n arcs (ranksTo L L.length) (hierS n arcs L) ws (arcsTo n arcs (ranksTo L L.length) (hierS n arcs L) arcs.length) k).2 k :=
  h.need hn hal (dchk_ok hd).2.1 (sidesTo_len _ _ _ _ _ _ _).1 (sidesTo_len _ _ _ _ _ _ _).2 (sidesTo_rng _ _ _ _ _ _ _).1 (sidesTo_rng _ _ _ _ _ _ _).2 hk
/-- The call of custom.New of a hierarchy. -/
theorem custom_New.of {w : World} {p : Nat} (h : Hk n arcs L) (hn : n ≤ 100) (hH : HierOf w p n arcs L) (hal : arcs.length ≤ 1000000) {wA : Option Addr} {wc : Nat} {ws : List Int} (hw : Kd.C (Kd.int .i64) w wA ws.length ws) (hwc : ws.length ≤ wc) (hwl : ws.length ≤ 1000000) :
    Calls Try.prog 40 #[.pointer (some ⟨p, 0, none⟩), .slice wA ws.length wc] w fun e w' => Below w.heap.size w w' ∧ ((dchk (n : Int) arcs ws ≠ 0 ∧ e = .returned (.tuple #[.pointer none, .int .i64 (dchk (n : Int) arcs ws)])) ∨
      (dchk (n : Int) arcs ws = 0 ∧ ∃ q o wv uv dv Ba va, e = .returned (.tuple #[.pointer (some ⟨q, 0, none⟩), .int .i64 0]) ∧ MetO w' w.heap.size q p o wv uv dv Ba va ws (arS n arcs L) (sdS n arcs L ws).1 (sdS n arcs L ws).2)) :=
  custom_New.calls hH h.lenR h.ok h.ends (h.capd (by omega)) hal (by
    have h1 := h.few
    have h2 : n * n ≤ 100 * 100 := Nat.mul_le_mul hn hn
    omega) hw hwc hwl (fun u v hf => h.fnd u v hf) (fun hd k hk => h.needs (by omega) hal hd k hk)
end
end Go.Proofs.Ytcfeehaoeaoegaa.Print
