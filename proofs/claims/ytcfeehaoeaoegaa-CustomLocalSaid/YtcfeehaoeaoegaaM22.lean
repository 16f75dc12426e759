/- Several texts of this claim in one: HDDist, HMLoc, HMAt. -/
import Derived.Test.YtcfeehaoeaoegaaM20
import Derived.Test.YtcfeehaoeaoegaaF39
import Derived.Test.YtcfeehaoeaoegaaM19
namespace Go.Proofs.Ytcfeehaoeaoegaa.Print
open Go.RowKit Go.Proofs.YtcfeehaoeaoegaaW.PrintWords Go.Proofs.YtcfeehaoeaoegaaW.PrintLast Go.Proofs.YtcfeehaoeaoegaaW.PrintMore
set_option linter.unusedVariables false
set_option linter.unusedSimpArgs false

/-- A walk over open arcs, and its cost. -/
inductive Wk (arcs : List S38) (ws : List Int) : Int → Int → Int → Prop
  | nil (u : Int) : Wk arcs ws u u 0
  | snoc {u x v c : Int} (i : Nat) (h : Wk arcs ws u x c) (hi : i < arcs.length) (h0 : (arcs.getD i z38).f0 = x) (h1 : (arcs.getD i z38).f1 = v) (hw : 0 ≤ ws.getD i 0) : Wk arcs ws u v (c + ws.getD i 0)
section
variable {arcs : List S38} {ws : List Int}
theorem Wk.trans {u x : Int} {a : Int} (h : Wk arcs ws u x a) : ∀ {v b : Int}, Wk arcs ws x v b → Wk arcs ws u v (a + b) := by
  intro v b k
  induction k with
  | nil => rw [Int.add_zero]; exact h
  | snoc i _ hi h0 h1 hw ih =>
    rw [← Int.add_assoc]
    exact Wk.snoc i ih hi h0 h1 hw
theorem Wk.one (i : Nat) (hi : i < arcs.length) (hw : 0 ≤ ws.getD i 0) : Wk arcs ws (arcs.getD i z38).f0 (arcs.getD i z38).f1 (ws.getD i 0) := by
  have := Wk.snoc (ws := ws) i (Wk.nil (arcs := arcs) (arcs.getD i z38).f0) hi rfl rfl hw
  rwa [Int.zero_add] at this
/-- The distances from s. -/
structure Dist (n : Nat) (arcs : List S38) (ws : List Int) (s : Nat) (d : List Int) : Prop where
  len : d.length = n
  rng : ∀ v, v < n → 0 ≤ d.getD v 0 ∧ d.getD v 0 ≤ mInf
  low : ∀ v c, v < n → Wk arcs ws (s : Int) (v : Int) c → d.getD v 0 ≤ c
  att : ∀ v, v < n → d.getD v 0 < mInf → Wk arcs ws (s : Int) (v : Int) (d.getD v 0)
/-- What is kept while arcs are relaxed. -/
structure DInv (n : Nat) (arcs : List S38) (ws : List Int) (s : Nat) (d : List Int) : Prop where
  len : d.length = n
  rng : ∀ v, v < n → 0 ≤ d.getD v 0 ∧ d.getD v 0 ≤ mInf
  att : ∀ v, v < n → d.getD v 0 < mInf → Wk arcs ws (s : Int) (v : Int) (d.getD v 0)
  src : d.getD s 0 = 0
/-- An arc is relaxed. -/
def relaxes (arcs : List S38) (ws d : List Int) (i : Nat) : Prop := 0 ≤ ws.getD i 0 ∧ d.getD (arcs.getD i z38).f0.toNat 0 < mInf ∧ d.getD (arcs.getD i z38).f0.toNat 0 + ws.getD i 0 < d.getD (arcs.getD i z38).f1.toNat 0
instance (arcs : List S38) (ws d : List Int) (i : Nat) : Decidable (relaxes arcs ws d i) := by unfold relaxes; infer_instance
def relaxD (arcs : List S38) (ws : List Int) (s : List Int × Bool) (i : Nat) : List Int × Bool :=
  if relaxes arcs ws s.1 i then (s.1.set (arcs.getD i z38).f1.toNat (s.1.getD (arcs.getD i z38).f0.toNat 0 + ws.getD i 0), true) else s
def sumN (d : List Int) : Nat := (d.map Int.toNat).sum
theorem getD_set_int {l : List Int} {i r : Nat} {x : Int} (hi : i < l.length) : (l.set i x).getD r 0 = if i = r then x else l.getD r 0 := by
  rw [List.getD_eq_getElem?_getD, List.getElem?_set]
  by_cases h : i = r
  · subst h
    simp [hi]
  · simp [h]
theorem sumN_set : ∀ (d : List Int) (i : Nat) (x : Int), i < d.length → 0 ≤ x → x < d.getD i 0 → sumN (d.set i x) < sumN d
  | [], i, x, hi, _, _ => by cases hi
  | y :: d, 0, x, _, h0, hx => by
    have hx' : x < y := hx
    show ((x :: d).map Int.toNat).sum < ((y :: d).map Int.toNat).sum
    simp only [List.map_cons, List.sum_cons]
    omega
  | y :: d, i + 1, x, hi, h0, hx => by
    have ih := sumN_set d i x (by simpa using hi) h0 hx
    unfold sumN at ih
    show ((y :: d.set i x).map Int.toNat).sum < ((y :: d).map Int.toNat).sum
    simp only [List.map_cons, List.sum_cons]
    omega
variable {n s : Nat} (hs : s < n) (hends : ∀ i, i < arcs.length → (0 ≤ (arcs.getD i z38).f0 ∧ (arcs.getD i z38).f0 < (n : Int)) ∧ (0 ≤ (arcs.getD i z38).f1 ∧ (arcs.getD i z38).f1 < (n : Int)))
include hs hends
theorem relaxD_inv {d : List Int} {ag : Bool} (h : DInv n arcs ws s d) {i : Nat} (hi : i < arcs.length) :
    DInv n arcs ws s (relaxD arcs ws (d, ag) i).1 ∧ (relaxes arcs ws d i → (relaxD arcs ws (d, ag) i).2 = true ∧ sumN (relaxD arcs ws (d, ag) i).1 < sumN d) ∧ (¬ relaxes arcs ws d i → relaxD arcs ws (d, ag) i = (d, ag)) := by
  unfold relaxD
  dsimp only
  by_cases hr : relaxes arcs ws d i
  · rw [if_pos hr]
    obtain ⟨h1, h2, h3⟩ := hr
    obtain ⟨⟨a0, a1⟩, b0, b1⟩ := hends i hi
    obtain ⟨f, hf⟩ := Int.eq_ofNat_of_zero_le a0
    obtain ⟨t, ht⟩ := Int.eq_ofNat_of_zero_le b0
    have hfn : f < n := by omega
    have htn : t < n := by omega
    rw [hf, Int.toNat_natCast] at h2 h3 ⊢
    rw [ht, Int.toNat_natCast] at h3 ⊢
    have r1 := h.rng f hfn
    have r2 := h.rng t htn
    have hset : ∀ v, (d.set t (d.getD f 0 + ws.getD i 0)).getD v 0 = if t = v then d.getD f 0 + ws.getD i 0 else d.getD v 0 := fun v => getD_set_int (by rw [h.len]; exact htn)
    refine ⟨⟨by rw [List.length_set]; exact h.len, fun v hv => ?_, fun v hv hlt => ?_, ?_⟩, fun _ => ⟨rfl, sumN_set d t _ (by rw [h.len]; exact htn) (by omega) h3⟩, fun hn => absurd ⟨h1, by rw [hf, Int.toNat_natCast]; exact h2, by rw [hf, ht, Int.toNat_natCast, Int.toNat_natCast]; exact h3⟩ hn⟩
    · show 0 ≤ (d.set t _).getD v 0 ∧ (d.set t _).getD v 0 ≤ mInf
      rw [hset]
      split
      · omega
      · exact h.rng v hv
    · show Wk arcs ws (s : Int) (v : Int) ((d.set t _).getD v 0)
      rw [hset]
      split
      · rename_i e
        subst e
        exact Wk.snoc i (h.att f hfn h2) hi hf ht h1
      · rename_i e
        have hlt' : (d.set t (d.getD f 0 + ws.getD i 0)).getD v 0 < mInf := hlt
        rw [hset, if_neg e] at hlt'
        exact h.att v hv hlt'
    · show (d.set t _).getD s 0 = 0
      rw [hset]
      split
      · rename_i e
        subst e
        have := h.src
        omega
      · exact h.src
  · rw [if_neg hr]
    exact ⟨h, fun k => absurd k hr, fun _ => rfl⟩
theorem pass_inv : ∀ (l : List Nat) (d : List Int) (ag : Bool), (∀ i ∈ l, i < arcs.length) → DInv n arcs ws s d →
    DInv n arcs ws s (l.foldl (relaxD arcs ws) (d, ag)).1 ∧ sumN (l.foldl (relaxD arcs ws) (d, ag)).1 ≤ sumN d ∧ ((l.foldl (relaxD arcs ws) (d, ag)).2 = true → ag = true ∨ sumN (l.foldl (relaxD arcs ws) (d, ag)).1 < sumN d) ∧
    ((l.foldl (relaxD arcs ws) (d, ag)).2 = false → (l.foldl (relaxD arcs ws) (d, ag)).1 = d ∧ ∀ i ∈ l, ¬ relaxes arcs ws d i)
  | [], d, ag, _, h => ⟨h, Nat.le_refl _, fun k => .inl k, fun _ => ⟨rfl, fun i hi => by cases hi⟩⟩
  | i :: l, d, ag, hl, h => by
    obtain ⟨h1, h2, h3⟩ := relaxD_inv hs hends (ag := ag) h (hl i (by simp))
    rw [List.foldl_cons]
    by_cases hr : relaxes arcs ws d i
    · obtain ⟨k1, k2⟩ := h2 hr
      obtain ⟨d1, ag1, hd1⟩ : ∃ d1 ag1, relaxD arcs ws (d, ag) i = (d1, ag1) := ⟨_, _, rfl⟩
      rw [hd1] at h1 k1 k2 ⊢
      have ht : ag1 = true := k1
      subst ht
      obtain ⟨j1, j2, j3, j4⟩ := pass_inv l d1 true (fun x hx => hl x (by simp [hx])) h1
      have k2' : sumN d1 < sumN d := k2
      refine ⟨j1, by omega, fun _ => .inr (by omega), fun k => ?_⟩
      have hc : ∀ (l : List Nat) (d1 : List Int), (l.foldl (relaxD arcs ws) (d1, true)).2 = true := fun l => by
        induction l with
        | nil => intro _; rfl
        | cons x l ih =>
          intro d1
          rw [List.foldl_cons]
          unfold relaxD
          split
          · exact ih _
          · exact ih _
      rw [hc] at k
      cases k
    · rw [h3 hr]
      obtain ⟨j1, j2, j3, j4⟩ := pass_inv l d ag (fun x hx => hl x (by simp [hx])) h
      refine ⟨j1, j2, j3, fun k => ⟨(j4 k).1, fun x hx => ?_⟩⟩
      rcases List.mem_cons.1 hx with rfl | hx
      · exact hr
      · exact (j4 k).2 x hx
theorem DInv.done {d : List Int} (h : DInv n arcs ws s d) (hc : ∀ i, i < arcs.length → ¬ relaxes arcs ws d i) : Dist n arcs ws s d := by
  refine ⟨h.len, h.rng, fun v c hv hw => ?_, h.att⟩
  have key : ∀ (u v c : Int), Wk arcs ws u v c → u = (s : Int) → ∀ x : Nat, x < n → v = (x : Int) → d.getD x 0 ≤ c := by
    intro u v c hw
    induction hw with
    | nil =>
      intro hu x hx hv
      have : x = s := by omega
      subst this
      have := h.src
      omega
    | @snoc y v c i hw hi h0 h1 hwt ih =>
      intro hu x hx hv
      obtain ⟨⟨a0, a1⟩, b0, b1⟩ := hends i hi
      rw [h0] at a0 a1
      obtain ⟨f, hf⟩ := Int.eq_ofNat_of_zero_le a0
      have hfn : f < n := by omega
      have h2 := ih hu f hfn hf
      have h3 := hc i hi
      unfold relaxes at h3
      rw [h0, h1, hf, hv, Int.toNat_natCast, Int.toNat_natCast] at h3
      have r1 := h.rng x hx
      by_cases h4 : d.getD f 0 < mInf
      · have h5 : ¬ (d.getD f 0 + ws.getD i 0 < d.getD x 0) := fun k => h3 ⟨hwt, h4, k⟩
        omega
      · omega
  exact key _ _ _ hw rfl v hv rfl
section
variable (hn : n ≤ 1000000) (hal : arcs.length ≤ 1000000) (hwl : ws.length = arcs.length) (hwr : ∀ i, i < ws.length → ws.getD i 0 ≤ 1073741824)
include hn hal hwl hwr
theorem from_l2 {r : List Int × Int} : ∀ (c j : Nat) (d : List Int) (ag : Bool), j + c = arcs.length → DInv n arcs ws s d → (Ev (fun k => mapmakerref38_From.l1 k ws ((List.range' j c).foldl (relaxD arcs ws) (d, ag)).1 ((List.range' j c).foldl (relaxD arcs ws) (d, ag)).2 (n : Int) arcs) r) →
    Ev (fun k => mapmakerref38_From.l2 k ws d ag (j : Int) (n : Int) arcs) r
  | 0, j, d, ag, hj, h, hr => by
    have _ := hn
    refine Ev.step (fun k => ?_) hr
    simp only [mapmakerref38_From.l2]
    rw [if_neg (by omega)]
    rfl
  | c + 1, j, d, ag, hj, h, hr => by
    have hja : j < arcs.length := by omega
    rw [List.range'_succ, List.foldl_cons] at hr
    obtain ⟨h1, h2, h3⟩ := relaxD_inv hs hends (ag := ag) h hja
    have ih := from_l2 c (j + 1) (relaxD arcs ws (d, ag) j).1 (relaxD arcs ws (d, ag) j).2 (by omega) h1 hr
    obtain ⟨⟨a0, a1⟩, b0, b1⟩ := hends j hja
    obtain ⟨f, hf⟩ := Int.eq_ofNat_of_zero_le a0
    obtain ⟨t, ht⟩ := Int.eq_ofNat_of_zero_le b0
    have hfn : f < n := by omega
    have htn : t < n := by omega
    have e1 : rd ws (j : Int) = ws.getD j 0 := by
      show ws.getD (j : Int).toNat 0 = _
      rw [Int.toNat_natCast]
    have e2 : ∀ x : Nat, rd d (x : Int) = d.getD x 0 := fun x => by
      show d.getD (x : Int).toNat 0 = _
      rw [Int.toNat_natCast]
    have e3 : rd_T38 arcs (j : Int) = arcs.getD j z38 := by
      unfold rd_T38
      rw [Int.toNat_natCast]
    have hl := h.len
    have r1 := h.rng f hfn
    have r2 := h.rng t htn
    have hw := hwr j (by omega)
    unfold relaxD at ih
    refine Ev.step (fun k => ?_) ih
    simp only [mapmakerref38_From.l2]
    rw [if_pos (by omega), if_pos (by omega), if_pos (by omega), e1, e3, hf, ht, e2, e2]
    unfold relaxes
    simp only [hf, ht, Int.toNat_natCast]
    unfold mInf at r1 r2 ⊢
    by_cases c1 : 0 ≤ ws.getD j 0
    · rw [if_pos (show ws.getD j 0 ≥ 0 from c1), if_pos (by omega), if_pos (by omega)]
      by_cases c2 : d.getD f 0 < 1152921504606846976
      · have ew : wrap64 (d.getD f 0 + ws.getD j 0) = d.getD f 0 + ws.getD j 0 := by unfold wrap64; omega
        rw [if_pos c2, if_pos (by omega), if_pos (by omega), ew, wrap_succ (by omega)]
        by_cases c3 : d.getD f 0 + ws.getD j 0 < d.getD t 0
        · rw [if_pos c3, if_pos ⟨c1, c2, c3⟩]
        · rw [if_neg c3, if_neg (fun k => c3 k.2.2)]
      · rw [if_neg c2, if_neg (fun k => c2 k.2.1), wrap_succ (by omega)]
    · rw [if_neg (by omega), if_neg (fun k => c1 k.1), wrap_succ (by omega)]
theorem from_l1 : ∀ (m : Nat) (d : List Int), sumN d ≤ m → DInv n arcs ws s d → ∃ d', Dist n arcs ws s d' ∧ Ev (fun k => mapmakerref38_From.l1 k ws d true (n : Int) arcs) (d', 0)
  | m, d, hm, h => by
    obtain ⟨j1, j2, j3, j4⟩ := pass_inv hs hends (List.range' 0 arcs.length) d false (fun i hi => by rw [List.mem_range'_1] at hi; omega) h
    have hgo : ∀ r, Ev (fun k => mapmakerref38_From.l1 k ws ((List.range' 0 arcs.length).foldl (relaxD arcs ws) (d, false)).1 ((List.range' 0 arcs.length).foldl (relaxD arcs ws) (d, false)).2 (n : Int) arcs) r → Ev (fun k => mapmakerref38_From.l1 k ws d true (n : Int) arcs) r := fun r hr => by
      refine Ev.step (fun k => ?_) (from_l2 hs hends hn hal hwl hwr arcs.length 0 d false (by omega) h hr)
      simp only [mapmakerref38_From.l1]
      rfl
    obtain ⟨d1, ag1, hd1⟩ : ∃ d1 ag1, (List.range' 0 arcs.length).foldl (relaxD arcs ws) (d, false) = (d1, ag1) := ⟨_, _, rfl⟩
    rw [hd1] at j1 j2 j3 j4
    simp only [hd1] at hgo
    cases ag1 with
    | true =>
      have h5 : sumN d1 < sumN d := by
        rcases j3 rfl with k | k
        · cases k
        · exact k
      match m, hm with
      | 0, hm => omega
      | m + 1, hm =>
        obtain ⟨d', k1, k2⟩ := from_l1 m d1 (by omega) j1
        exact ⟨d', k1, hgo _ k2⟩
    | false =>
      obtain ⟨e1, e2⟩ := j4 rfl
      have e1' : d1 = d := e1
      subst e1'
      refine ⟨d1, j1.done hs hends (fun i hi => e2 i (by rw [List.mem_range'_1]; omega)), hgo _ ?_⟩
      refine Ev.step1 fun k => ?_
      simp only [mapmakerref38_From.l1]
      rfl
theorem from_l0 {r : List Int × Int} (hr : Ev (fun k => mapmakerref38_From.l1 k ws ((List.replicate n mInf).set s 0) true (n : Int) arcs) r) : ∀ c j : Nat, j + c = n → Ev (fun k => mapmakerref38_From.l0 k ws (s : Int) (List.replicate j mInf) (j : Int) (n : Int) arcs) r
  | 0, j, hj => by
    have _ := hal
    have _ := hwl
    have _ := hwr
    have _ := hends
    obtain rfl : j = n := by omega
    refine Ev.step (fun k => ?_) hr
    simp only [mapmakerref38_From.l0]
    rw [if_neg (by omega), if_pos (by omega), if_pos (by rw [List.length_replicate]; omega), Int.toNat_natCast]
  | c + 1, j, hj => by
    refine Ev.step (fun k => ?_) (from_l0 hr c (j + 1) (by omega))
    simp only [mapmakerref38_From.l0]
    rw [if_pos (by omega), if_pos (by rw [List.length_replicate]; omega), wrap_succ (by omega), List.replicate_succ']
    rfl
theorem dist_ev (hd : dchk (n : Int) arcs ws = 0) : ∃ d, Dist n arcs ws s d ∧ Ev (fun k => mapmakerref38_From.f k (n : Int) arcs ws (s : Int)) (d, 0) := by
  have hset : ∀ v, ((List.replicate n mInf).set s 0).getD v 0 = if s = v then 0 else (List.replicate n mInf).getD v 0 := fun v => getD_set_int (by rw [List.length_replicate]; exact hs)
  have hrep : ∀ v, v < n → (List.replicate n mInf).getD v 0 = mInf := fun v hv => by simp [hv]
  have h0 : DInv n arcs ws s ((List.replicate n mInf).set s 0) := by
    refine ⟨by simp, fun v hv => ?_, fun v hv hlt => ?_, by rw [hset, if_pos rfl]⟩
    · rw [hset]
      split
      · unfold mInf; omega
      · rw [hrep v hv]
        unfold mInf; omega
    · rw [hset] at hlt ⊢
      split
      · rename_i e
        subst e
        exact Wk.nil _
      · rename_i e
        rw [if_neg e, hrep v hv] at hlt
        omega
  obtain ⟨d, h1, h2⟩ := from_l1 hs hends hn hal hwl hwr _ _ (Nat.le_refl _) h0
  refine ⟨d, h1, ?_⟩
  unfold mapmakerref38_From.f
  have hck := refchk_ev (n : Int) arcs ws hal (by omega)
  rw [hd] at hck
  refine Ev.bind hck ?_
  refine Ev.congr (fun k => (if_pos rfl).trans ((if_neg (by omega)).trans (by rw [decide_eq_false (by omega)]))) ?_
  refine Ev.step (fun k => ?_) (from_l0 hs hends hn hal hwl hwr h2 n 0 (by omega))
  simp only [mapmakerref38_From.j0]
  rw [if_neg Bool.false_ne_true]
  rfl
end
end
end Go.Proofs.Ytcfeehaoeaoegaa.Print
namespace Go.Proofs.Ytcfeehaoeaoegaa.Print
open Go.RowKit Go.Proofs.YtcfeehaoeaoegaaW.PrintWords Go.Proofs.YtcfeehaoeaoegaaW.PrintLast Go.Proofs.YtcfeehaoeaoegaaW.PrintMore
set_option linter.unusedVariables false
set_option linter.unusedSimpArgs false

theorem take_set_ge {l : List Int} {k e : Nat} {x : Int} (h : e ≤ k) : (l.set k x).take e = l.take e := List.take_set_of_le h
theorem sd_take (n : Nat) (arcs : List S38) (L ws : List Int) (e : Nat) : ∀ d, (sdTo n arcs L ws (e + d)).1.take e = (sdTo n arcs L ws e).1.take e ∧ (sdTo n arcs L ws (e + d)).2.take e = (sdTo n arcs L ws e).2.take e
  | 0 => ⟨rfl, rfl⟩
  | d + 1 => by
    have ih := sd_take n arcs L ws e d
    constructor
    · show ((sdTo n arcs L ws (e + d)).1.set (e + d) _).take e = _
      rw [take_set_ge (by omega)]
      exact ih.1
    · show ((sdTo n arcs L ws (e + d)).2.set (e + d) _).take e = _
      rw [take_set_ge (by omega)]
      exact ih.2
theorem sdTo_len (n : Nat) (arcs : List S38) (L ws : List Int) (k : Nat) : (sdTo n arcs L ws k).1.length = (hierS n arcs L).edges.length ∧ (sdTo n arcs L ws k).2.length = (hierS n arcs L).edges.length := sidesTo_len _ _ _ _ _ _ _
theorem sdS_bound (n : Nat) (arcs : List S38) (L ws : List Int) (e : Nat) : (0 ≤ (sdS n arcs L ws).1.getD e 0 ∧ (sdS n arcs L ws).1.getD e 0 ≤ mInf) ∧ (0 ≤ (sdS n arcs L ws).2.getD e 0 ∧ (sdS n arcs L ws).2.getD e 0 ≤ mInf) :=
  ⟨getD_bound (sidesTo_rng _ _ _ _ _ _ _).1 e, getD_bound (sidesTo_rng _ _ _ _ _ _ _).2 e⟩
section
variable {n : Nat} {arcs : List S38} {L : List Int} (h : Hk n arcs L) {ws : List Int}
include h
theorem Hk.sd_at {e : Nat} (he : e < (hierS n arcs L).edges.length) (hwl : ws.length = arcs.length) :
    (sdS n arcs L ws).1.getD e 0 = oneM (hierS n arcs L).edges ((sdS n arcs L ws).1.take e) ((sdS n arcs L ws).2.take e) ((hierS n arcs L).edges.getD e z38).f0 ((hierS n arcs L).edges.getD e z38).f1 arcs ws ∧
    (sdS n arcs L ws).2.getD e 0 = oneM (hierS n arcs L).edges ((sdS n arcs L ws).1.take e) ((sdS n arcs L ws).2.take e) ((hierS n arcs L).edges.getD e z38).f1 ((hierS n arcs L).edges.getD e z38).f0 arcs ws := by
  obtain ⟨d, hd⟩ : ∃ d, (hierS n arcs L).edges.length = e + 1 + d := ⟨(hierS n arcs L).edges.length - (e + 1), by omega⟩
  have hl := sdTo_len n arcs L ws e
  have hS : sdS n arcs L ws = sdTo n arcs L ws (e + 1 + d) := by unfold sdS; rw [hd]
  have t1 := sd_take n arcs L ws (e + 1) d
  have t0 := sd_take n arcs L ws e (1 + d)
  rw [show e + (1 + d) = e + 1 + d by omega, ← hS] at t0
  rw [← hS] at t1
  have hs := h.side (ws := ws) he hwl hl.1 hl.2
  rw [← t0.1, ← t0.2] at hs
  have g1 : (sdS n arcs L ws).1.getD e 0 = ((sdS n arcs L ws).1.take (e + 1)).getD e 0 := (getD_take (by omega)).symm
  have g2 : (sdS n arcs L ws).2.getD e 0 = ((sdS n arcs L ws).2.take (e + 1)).getD e 0 := (getD_take (by omega)).symm
  have s1 : sdTo n arcs L ws (e + 1) = ((sdTo n arcs L ws e).1.set e (weightsS n arcs (ranksTo L L.length) (hierS n arcs L) ws (arS n arcs L) (sdTo n arcs L ws e).1 (sdTo n arcs L ws e).2 e).1, (sdTo n arcs L ws e).2.set e (weightsS n arcs (ranksTo L L.length) (hierS n arcs L) ws (arS n arcs L) (sdTo n arcs L ws e).1 (sdTo n arcs L ws e).2 e).2) := rfl
  rw [g1, g2, t1.1, t1.2, getD_take (by omega), getD_take (by omega), s1, hs]
  dsimp only
  exact ⟨by rw [getD_set_int (by omega), if_pos rfl], by rw [getD_set_int (by omega), if_pos rfl]⟩
omit h in
/-- The weight of the direction from u to v. -/
def atS (n : Nat) (arcs : List S38) (L ws : List Int) (u v : Int) : Int := if (hF n arcs L u v).2 = true then (if ((hierS n arcs L).edges.getD (hF n arcs L u v).1.toNat z38).f0 = u then (sdS n arcs L ws).1.getD (hF n arcs L u v).1.toNat 0 else (sdS n arcs L ws).2.getD (hF n arcs L u v).1.toNat 0) else mInf
theorem Hk.at_ix {i : Nat} {u v : Int} (hf : (hierS n arcs L).edges.findIdx? (isE2 u v) = some i) : atS n arcs L ws u v = if ((hierS n arcs L).edges.getD i z38).f0 = u then (sdS n arcs L ws).1.getD i 0 else (sdS n arcs L ws).2.getD i 0 := by
  unfold atS
  rw [h.hF_ix hf, if_pos rfl]
  simp only [Int.toNat_natCast]
theorem Hk.at_up {i : Nat} (hi : i < (hierS n arcs L).edges.length) : atS n arcs L ws ((hierS n arcs L).edges.getD i z38).f0 ((hierS n arcs L).edges.getD i z38).f1 = (sdS n arcs L ws).1.getD i 0 := by
  rw [h.at_ix (h.ix hi (.inl ⟨rfl, rfl⟩)), if_pos rfl]
theorem Hk.at_dn {i : Nat} (hi : i < (hierS n arcs L).edges.length) : atS n arcs L ws ((hierS n arcs L).edges.getD i z38).f1 ((hierS n arcs L).edges.getD i z38).f0 = (sdS n arcs L ws).2.getD i 0 := by
  rw [h.at_ix (h.ix hi (.inr ⟨rfl, rfl⟩)), if_neg (h.ne hi)]
omit h in
theorem atS_bound (u v : Int) : 0 ≤ atS n arcs L ws u v ∧ atS n arcs L ws u v ≤ mInf := by
  unfold atS
  split
  · split
    · exact (sdS_bound n arcs L ws _).1
    · exact (sdS_bound n arcs L ws _).2
  · unfold mInf
    omega
/-- What the weight of a direction is the least of. -/
theorem Hk.at_spec {e : Nat} (he : e < (hierS n arcs L).edges.length) (hwl : ws.length = arcs.length) {u v : Int} (huv : (u = ((hierS n arcs L).edges.getD e z38).f0 ∧ v = ((hierS n arcs L).edges.getD e z38).f1) ∨ (u = ((hierS n arcs L).edges.getD e z38).f1 ∧ v = ((hierS n arcs L).edges.getD e z38).f0)) :
    (∀ j, j < arcs.length → (arcs.getD j z38).f0 = u → (arcs.getD j z38).f1 = v → 0 ≤ ws.getD j 0 → atS n arcs L ws u v ≤ ws.getD j 0) ∧ (∀ y ∈ lowerS (hierS n arcs L) (e : Int), atS n arcs L ws u v ≤ over (atS n arcs L ws u y) (atS n arcs L ws y v)) ∧
    (atS n arcs L ws u v < mInf → (∃ j, j < arcs.length ∧ (arcs.getD j z38).f0 = u ∧ (arcs.getD j z38).f1 = v ∧ 0 ≤ ws.getD j 0 ∧ ws.getD j 0 = atS n arcs L ws u v) ∨ (∃ y ∈ lowerS (hierS n arcs L) (e : Int), over (atS n arcs L ws u y) (atS n arcs L ws y v) = atS n arcs L ws u v)) := by
  obtain ⟨U, hU⟩ : ∃ U, (sdS n arcs L ws).1 = U := ⟨_, rfl⟩
  obtain ⟨D, hD⟩ : ∃ D, (sdS n arcs L ws).2 = D := ⟨_, rfl⟩
  have hl := sidesTo_len n arcs (ranksTo L L.length) (hierS n arcs L) ws (arS n arcs L) (hierS n arcs L).edges.length
  have hl1 : U.length = (hierS n arcs L).edges.length := by rw [← hU]; exact hl.1
  have hl2 : D.length = (hierS n arcs L).edges.length := by rw [← hD]; exact hl.2
  have hat : atS n arcs L ws u v = oneM (hierS n arcs L).edges (U.take e) (D.take e) u v arcs ws := by
    have h1 := h.sd_at (ws := ws) he hwl
    rw [← hU, ← hD]
    rcases huv with ⟨rfl, rfl⟩ | ⟨rfl, rfl⟩
    · rw [h.at_up he]
      exact h1.1
    · rw [h.at_dn he]
      exact h1.2
  have hvia := h.via_same he huv hl1 hl2
  have hlow : ∀ y ∈ lowerS (hierS n arcs L) (e : Int), atS n arcs L ws u y = D.getD (hF n arcs L y u).1.toNat 0 ∧ atS n arcs L ws y v = U.getD (hF n arcs L y v).1.toNat 0 := fun y hy => by
    have h2 := (h.mem_low he y).1 hy
    have h3 : (∃ i, i < (hierS n arcs L).edges.length ∧ ((hierS n arcs L).edges.getD i z38).f0 = y ∧ ((hierS n arcs L).edges.getD i z38).f1 = u) ∧ (∃ i, i < (hierS n arcs L).edges.length ∧ ((hierS n arcs L).edges.getD i z38).f0 = y ∧ ((hierS n arcs L).edges.getD i z38).f1 = v) := by
      rcases huv with ⟨rfl, rfl⟩ | ⟨rfl, rfl⟩
      · exact h2
      · exact ⟨h2.2, h2.1⟩
    obtain ⟨⟨i, hi, hi0, hi1⟩, j, hj, hj0, hj1⟩ := h3
    have a1 := h.at_dn (ws := ws) hi
    have a2 := h.at_up (ws := ws) hj
    rw [hi0, hi1] at a1
    rw [hj0, hj1] at a2
    have f1 := h.hF_ix (h.ix hi (u := y) (v := u) (.inl ⟨hi0, hi1⟩))
    have f2 := h.hF_ix (h.ix hj (u := y) (v := v) (.inl ⟨hj0, hj1⟩))
    rw [f1, f2, a1, a2, hU, hD]
    simp only [Int.toNat_natCast]
    exact ⟨trivial, trivial⟩
  have hrd : ∀ j : Nat, rd ws (j : Int) = ws.getD j 0 := fun j => by
    show ws.getD (j : Int).toNat 0 = _
    rw [Int.toNat_natCast]
  obtain ⟨m1, m2, m3⟩ := minL_spec (arcW arcs ws u v 0 ws.length ++ viaW (hierS n arcs L).edges (U.take e) (D.take e) u v 0 (hierS n arcs L).edges.length) mInf
  have hone : atS n arcs L ws u v = minL mInf (arcW arcs ws u v 0 ws.length ++ viaW (hierS n arcs L).edges (U.take e) (D.take e) u v 0 (hierS n arcs L).edges.length) := hat
  rw [← hone] at m1 m2 m3
  refine ⟨fun j hj j0 j1 jw => ?_, fun y hy => ?_, fun hlt => ?_⟩
  · refine m2 _ (List.mem_append_left _ ?_)
    unfold arcW
    rw [mem_range_flat]
    refine ⟨j, by omega, ?_⟩
    unfold arcW1
    rw [rd_getD, hrd, if_pos ⟨j0, j1, jw⟩]
    simp
  · refine m2 _ (List.mem_append_right _ ?_)
    rw [← hvia, List.mem_map]
    exact ⟨y, hy, by rw [(hlow y hy).1, (hlow y hy).2]⟩
  · rcases m3 with m3 | m3
    · omega
    · rcases List.mem_append.1 m3 with m3 | m3
      · left
        unfold arcW at m3
        rw [mem_range_flat] at m3
        obtain ⟨j, hj, hx⟩ := m3
        unfold arcW1 at hx
        rw [rd_getD, hrd] at hx
        split at hx
        · rename_i hc
          rw [List.mem_singleton] at hx
          exact ⟨j, by omega, hc.1, hc.2.1, hc.2.2, hx.symm⟩
        · cases hx
      · right
        rw [← hvia, List.mem_map] at m3
        obtain ⟨y, hy, hx⟩ := m3
        exact ⟨y, hy, by rw [(hlow y hy).1, (hlow y hy).2]; exact hx⟩
omit h in
theorem over_fin {a b : Int} (ha : a ≤ mInf) (hb : b ≤ mInf) (h : over a b < mInf) : a < mInf ∧ b < mInf ∧ over a b = a + b := by
  unfold over at h ⊢
  split at h
  · omega
  · rename_i hc
    rw [if_neg hc]
    exact ⟨by omega, by omega, rfl⟩
/-- The finite weights are costs of walks, and small. -/
theorem Hk.at_walk (hwl : ws.length = arcs.length) (hwr : ∀ i, i < ws.length → ws.getD i 0 ≤ 1073741824) : ∀ (x : Nat) (e : Nat) (u v : Int), e < (hierS n arcs L).edges.length → x < n → ((hierS n arcs L).edges.getD e z38).f0 = L.getD x 0 →
    ((u = ((hierS n arcs L).edges.getD e z38).f0 ∧ v = ((hierS n arcs L).edges.getD e z38).f1) ∨ (u = ((hierS n arcs L).edges.getD e z38).f1 ∧ v = ((hierS n arcs L).edges.getD e z38).f0)) → atS n arcs L ws u v < mInf → Wk arcs ws u v (atS n arcs L ws u v) ∧ atS n arcs L ws u v ≤ ((2 ^ x : Nat) : Int) * 1073741824 := by
  intro x
  induction x using Nat.strongRecOn with
  | ind x ih =>
    intro e u v he hx hex huv hlt
    obtain ⟨s1, s2, s3⟩ := h.at_spec (ws := ws) he hwl huv
    have hpos : 1 ≤ 2 ^ x := Nat.one_le_two_pow
    rcases s3 hlt with ⟨j, hj, j0, j1, jw, jn⟩ | ⟨y, hy, hyn⟩
    · have h1 := Wk.one (ws := ws) j hj jw
      rw [j0, j1, jn] at h1
      have h2 := hwr j (by omega)
      exact ⟨h1, by rw [← jn]; omega⟩
    · have b1 := atS_bound (n := n) (arcs := arcs) (L := L) (ws := ws) u y
      have b2 := atS_bound (n := n) (arcs := arcs) (L := L) (ws := ws) y v
      rw [← hyn] at hlt
      obtain ⟨c1, c2, c3⟩ := over_fin b1.2 b2.2 hlt
      have h2 := (h.mem_low he y).1 hy
      have h3 : (∃ i, i < (hierS n arcs L).edges.length ∧ ((hierS n arcs L).edges.getD i z38).f0 = y ∧ ((hierS n arcs L).edges.getD i z38).f1 = u) ∧ (∃ i, i < (hierS n arcs L).edges.length ∧ ((hierS n arcs L).edges.getD i z38).f0 = y ∧ ((hierS n arcs L).edges.getD i z38).f1 = v) := by
        rcases huv with ⟨rfl, rfl⟩ | ⟨rfl, rfl⟩
        · exact h2
        · exact ⟨h2.2, h2.1⟩
      obtain ⟨⟨k, hk, k0, k1⟩, _⟩ := h2
      obtain ⟨⟨i, hi, hi0, hi1⟩, j, hj, hj0, hj1⟩ := h3
      obtain ⟨x', y', hxy, hyn', e0, e1, _⟩ := h.edge_at hk
      have ey : y' = x := ord_inj h.ord (by omega) hx (e1.symm.trans (k1.trans hex))
      subst ey
      have ex : y = L.getD x' 0 := k0.symm.trans e0
      obtain ⟨w1, q1⟩ := ih x' hxy i u y hi (by omega) (hi0.trans ex) (.inr ⟨hi1.symm, hi0.symm⟩) c1
      obtain ⟨w2, q2⟩ := ih x' hxy j y v hj (by omega) (hj0.trans ex) (.inl ⟨hj0.symm, hj1.symm⟩) c2
      rw [← hyn, c3]
      refine ⟨w1.trans w2, ?_⟩
      have h4 : 2 ^ (x' + 1) ≤ 2 ^ y' := Nat.pow_le_pow_right (by decide) (by omega)
      rw [Nat.pow_succ] at h4
      omega
end
end Go.Proofs.Ytcfeehaoeaoegaa.Print
namespace Go.Proofs.Ytcfeehaoeaoegaa.Print
open Go.RowKit Go.Proofs.YtcfeehaoeaoegaaW.PrintWords Go.Proofs.YtcfeehaoeaoegaaW.PrintLast Go.Proofs.YtcfeehaoeaoegaaW.PrintMore
set_option linter.unusedVariables false
set_option linter.unusedSimpArgs false

theorem sideS_at' {l : List Int} {j : Nat} (h : j < l.length) : sideS l (j : Int) = l.getD j 0 := by
  unfold sideS
  rw [if_pos (by omega), Int.toNat_natCast]
set_option maxHeartbeats 3200000 in
set_option maxRecDepth 100000 in
theorem law41_at.calls {w : World} {q p n : Nat} {arcs : List S38} {L ws : List Int} (hM : MetH w q p n arcs L ws) (hk : Hk n arcs L) (hn : n ≤ 1000) (u v : Int) :
    Calls Try.prog 38 #[.pointer (some ⟨q, 0, none⟩), .int .i64 u, .int .i64 v] w fun e w' => e = .returned (.int .i64 (atS n arcs L ws u v)) ∧ Below w.heap.size w w' := by
  have HM := Aside0.mk hM
  have HK := Aside0.mk hk
  have HB := Aside0.mk (Below.refl w.heap.size w)
  clear hM hk
  go_enter Try.func38, Try.ntmps38
  go_wp2_with (fail)
  refine (Metric_Hier.calls (HM.out.reads HK.out hn)).mono ?_
  rintro e w1 ⟨rfl, rfl⟩
  go_wp2_with (fail)
  refine (Hier_Find.calls HM.out.hier HK.out.lenR u v).mono ?_
  rintro e w2 ⟨he, hb2⟩
  obtain ⟨fe, fb, hf⟩ : ∃ fe fb, findS n (ranksTo L L.length) (hierS n arcs L) u v = (fe, fb) := ⟨_, _, rfl⟩
  rw [hf] at he
  subst he
  replace HM := Aside0.mk (HM.out.below hb2)
  replace HB := Aside0.mk (below_then HB.out HB.out.size hb2)
  clear hb2
  cases fb with
  | false =>
    have HA : Aside0 (atS n arcs L ws u v = mInf) := ⟨by
      unfold atS
      rw [if_neg]
      show ¬ (findS _ _ _ _ _).2 = true
      rw [hf]
      exact Bool.false_ne_true⟩
    clear hf
    go_wp2
    go_ret
    exact ⟨by rw [HA.out]; rfl, HB.out⟩
  | true =>
    obtain ⟨i, hi, hv⟩ := HK.out.ix_hF (u := u) (v := v) (by show (findS _ _ _ _ _).2 = true; rw [hf])
    have hv' : (fe, true) = ((i : Int), true) := hf.symm.trans hv
    injection hv' with hv1 _
    subst hv1
    have HA := Aside0.mk (HK.out.at_ix (ws := ws) hi)
    have hil := (ix_of hi).1
    have hsh := HK.out.short hn
    obtain ⟨m, HME⟩ : ∃ m, Aside0 ((hierS n arcs L).edges.length = m) := ⟨_, ⟨rfl⟩⟩
    have hsl := sdS_len n arcs L ws
    rw [HME.out] at hil hsh hsl
    have HSL := Aside0.mk hsl
    obtain ⟨x0, HX0⟩ : ∃ x, Aside0 (((hierS n arcs L).edges.getD i z38).f0 = x) := ⟨_, ⟨rfl⟩⟩
    rw [HX0.out] at HA
    clear hf hv hi hsl
    go_wp2_with (fail)
    refine (Hier_Edges.calls HM.out.hier (by rw [HME.out]; omega)).mono ?_
    rintro e w3 ⟨ev, rfl, hr3, hb3⟩
    obtain ⟨A3, c3, rfl⟩ := Kd.R_slice hr3
    rw [HME.out]
    replace HM := Aside0.mk (HM.out.below hb3)
    replace HB := Aside0.mk (below_then HB.out HB.out.size hb3)
    clear hr3 hb3
    go_wp2_with (fail)
    refine (Hier_Edges.calls HM.out.hier (by rw [HME.out]; omega)).mono ?_
    rintro e w4 ⟨ev, rfl, hr4, hb4⟩
    obtain ⟨A4, c4, rfl, hc4, hC4⟩ := Kd.R_reads hr4
    have HC4 := Aside0.mk hC4
    rw [HME.out] at HC4 ⊢
    replace HM := Aside0.mk (HM.out.below hb4)
    replace HB := Aside0.mk (below_then HB.out HB.out.size hb4)
    clear hr4 hb4 hc4 hC4
    obtain ⟨ae, hA2, hx0, _⟩ := at_T38 HC4.out (i : Int) (by omega) (by omega)
    obtain ⟨ae2, hA3, hz0, _⟩ := at_T38 HC4.out 0 (by omega) (by omega)
    obtain rfl : ae2 = ae := Option.some.inj (hA3.symm.trans hA2)
    have hsp := spot_of_cell (ad := ae2) (by exact hz0)
    obtain ⟨ab, ao, asb⟩ := ae2
    injection hsp with hz1 hz2 hes
    clear hz1 hz2 hz0 hA3
    subst hes
    simp only [Addr.add_lit, Int.toNat_natCast] at hx0
    subst hA2
    rw [rd_getD, HX0.out] at hx0
    by_cases hxu : x0 = u
    · rw [if_pos hxu] at HA
      go_wp2_with (fail)
      refine (Metric_Up.calls (HM.out.reads HK.out hn) (i : Int)).mono ?_
      rintro e w5 ⟨rfl, rfl⟩
      rw [sideS_at' (by rw [HSL.out.1]; exact hil), ← HA.out]
      clear hx0
      go_wp2
      go_ret
      exact ⟨rfl, HB.out⟩
    · rw [if_neg hxu] at HA
      go_wp2_with (fail)
      refine (Metric_Down.calls (HM.out.reads HK.out hn) (i : Int)).mono ?_
      rintro e w5 ⟨rfl, rfl⟩
      rw [sideS_at' (by rw [HSL.out.2]; exact hil), ← HA.out]
      clear hx0
      go_wp2
      go_ret
      exact ⟨rfl, HB.out⟩
end Go.Proofs.Ytcfeehaoeaoegaa.Print
