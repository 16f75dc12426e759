/- Several texts of this claim in one: HQClimb, HQCheck, HQClimbW. -/
import Derived.Test.YtfnophaiamkmpaaM22
import Derived.Test.YtfnophaiamkmpaaM20
import Derived.WalkMore
namespace Go.Proofs.Ytfnophaiamkmpaa.Print
open Go.RowKit Go.Proofs.YtfnophaiamkmpaaW.PrintWords Go.Proofs.YtfnophaiamkmpaaW.PrintLast Go.Proofs.YtfnophaiamkmpaaW.PrintMore
set_option linter.unusedVariables false
set_option linter.unusedSimpArgs false
abbrev CM := List (Int × Int)
def relaxG (T W : Int → Int) (c : Int) (st : CM × CM) (e : Int) : CM × CM :=
 if W e ≥ mInf then st else
 match mget st.1 (T e) with
 | none => (mput st.1 (T e) (c + W e), mput st.2 (T e) e)
 | some old => if c + W e < old then (mput st.1 (T e) (c + W e), mput st.2 (T e) e) else st
structure RlxP (T W : Int → Int) (c : Int) (l : List Int) (st st' : CM × CM) : Prop where
 out : ∀ u, (∀ e ∈ l, T e ≠ u) → mget st'.1 u = mget st.1 u ∧ mget st'.2 u = mget st.2 u
 rel : ∀ e ∈ l, W e < mInf → ∃ c', mget st'.1 (T e) = some c' ∧ c' ≤ c + W e
 mono : ∀ u o, mget st.1 u = some o → ∃ c', mget st'.1 u = some c' ∧ c' ≤ o
 att : ∀ u c', mget st'.1 u = some c' → (mget st.1 u = some c' ∧ mget st'.2 u = mget st.2 u) ∨ ∃ e ∈ l, T e = u ∧ W e < mInf ∧ c' = c + W e ∧ mget st'.2 u = some e
theorem relax_one (T W : Int → Int) (c : Int) (st : CM × CM) (e : Int) : RlxP T W c [e] st (relaxG T W c st e) := by
 have put : (∀ o, mget st.1 (T e) = some o → c + W e < o) → W e < mInf → RlxP T W c [e] st (mput st.1 (T e) (c + W e), mput st.2 (T e) e) := by
  intro hle hw
  refine ⟨fun u hu => ?_, fun e' he' hw => ?_, fun u o ho => ?_, fun u c' hc' => ?_⟩
  ·have := hu e (by simp)
   constructor
   ·rw [mget_mput, if_neg this]
   ·rw [mget_mput, if_neg this]
  ·rw [List.mem_singleton] at he'
   subst he'
   exact ⟨_, by rw [mget_mput, if_pos rfl], Int.le_refl _⟩
  ·by_cases hu : T e = u
   ·subst hu
    exact ⟨_, by rw [mget_mput, if_pos rfl], by have := hle o ho; omega⟩
   ·exact ⟨o, by rw [mget_mput, if_neg hu]; exact ho, Int.le_refl _⟩
  ·by_cases hu : T e = u
   ·subst hu
    dsimp only at hc' ⊢
    rw [mget_mput, if_pos rfl] at hc'
    injection hc' with hc'
    exact .inr ⟨e, by simp, rfl, hw, hc'.symm, by rw [mget_mput, if_pos rfl]⟩
   ·dsimp only at hc' ⊢
    rw [mget_mput, if_neg hu] at hc'
    exact .inl ⟨hc', by rw [mget_mput, if_neg hu]⟩
 have keep : (W e < mInf → ∃ c', mget st.1 (T e) = some c' ∧ c' ≤ c + W e) → RlxP T W c [e] st st := by
  intro hk
  refine ⟨fun u _ => ⟨rfl, rfl⟩, fun e' he' hw => ?_, fun u o ho => ⟨o, ho, Int.le_refl _⟩, fun u c' hc' => .inl ⟨hc', rfl⟩⟩
  rw [List.mem_singleton] at he'
  subst he'
  exact hk hw
 unfold relaxG
 by_cases hw : W e ≥ mInf
 ·rw [if_pos hw]
  exact keep (fun h => by omega)
 ·rw [if_neg hw]
  split
  ·rename_i hn
   exact put (fun o ho => by rw [hn] at ho; cases ho) (by omega)
  ·rename_i old ho
   by_cases hlt : c + W e < old
   ·rw [if_pos hlt]
    exact put (fun o ho' => by rw [ho] at ho'; injection ho' with ho'; omega) (by omega)
   ·rw [if_neg hlt]
    exact keep (fun _ => ⟨old, ho, by omega⟩)
theorem relax_fold (T W : Int → Int) (c : Int) : ∀ (l : List Int) (st : CM × CM), RlxP T W c l st (l.foldl (relaxG T W c) st)
 | [], st => ⟨fun u _ => ⟨rfl, rfl⟩, fun e he => (by cases he), fun u o ho => ⟨o, ho, Int.le_refl _⟩, fun u c' hc' => .inl ⟨hc', rfl⟩⟩
 | e :: l, st => by
  have h1 := relax_one T W c st e
  have h2 := relax_fold T W c l (relaxG T W c st e)
  rw [List.foldl_cons]
  refine ⟨fun u hu => ?_, fun e' he' hw => ?_, fun u o ho => ?_, fun u c' hc' => ?_⟩
  ·have a1 := h1.out u (fun e' he' => hu e' (by rw [List.mem_singleton] at he'; rw [he']; simp))
   have a2 := h2.out u (fun e' he' => hu e' (List.mem_cons_of_mem _ he'))
   exact ⟨a2.1.trans a1.1, a2.2.trans a1.2⟩
  ·rcases List.mem_cons.1 he' with rfl | he'
   ·obtain ⟨c1, p1, p2⟩ := h1.rel e' (by simp) hw
    obtain ⟨c2, p3, p4⟩ := h2.mono _ _ p1
    exact ⟨c2, p3, by omega⟩
   ·exact h2.rel e' he' hw
  ·obtain ⟨c1, p1, p2⟩ := h1.mono u o ho
   obtain ⟨c2, p3, p4⟩ := h2.mono _ _ p1
   exact ⟨c2, p3, by omega⟩
  ·rcases h2.att u c' hc' with ⟨p1, p2⟩ | ⟨e', he', p1, p2, p3, p4⟩
   ·rcases h1.att u c' p1 with ⟨q1, q2⟩ | ⟨e', he', q1, q2, q3, q4⟩
    ·exact .inl ⟨q1, p2.trans q2⟩
    ·rw [List.mem_singleton] at he'
     subst he'
     exact .inr ⟨e', by simp, q1, q2, q3, p2.trans q4⟩
   ·exact .inr ⟨e', List.mem_cons_of_mem _ he', p1, p2, p3, p4⟩
theorem sideS_in {l : List Int} {j : Nat} (h : j < l.length) : sideS l (j : Int) = l.getD j 0 := by
 unfold sideS
 rw [if_pos (by omega), Int.toNat_natCast]
theorem fm_none {β : Type} {f : Nat → Option β} {k : Nat} (h : f k = none) : [k].filterMap f = [] := by simp [h]
theorem fm_some {β : Type} {f : Nat → Option β} {k : Nat} {b : β} (h : f k = some b) : [k].filterMap f = [b] := by simp [h]
theorem fm_congr {β : Type} {f g : Nat → Option β} : ∀ l : List Nat, (∀ j ∈ l, f j = g j) → l.filterMap f = l.filterMap g
 | [], _ => rfl
 | a :: l, h => by
  rw [List.filterMap_cons, List.filterMap_cons, h a (by simp), fm_congr l (fun j hj => h j (List.mem_cons_of_mem _ hj))]
theorem curP_back {n : Nat} {S : HSt} {v : Int} {k : Nat} (h0 : 0 ≤ curP n S v (k + 1)) : 0 ≤ curP n S v k := by
 have h1 : 0 ≤ parentS n S (curP n S v k) := h0
 unfold parentS at h1
 split at h1
 ·rename_i hc
  obtain ⟨q, _, hq⟩ := hasV_iff.1 hc.1
  omega
 ·omega
def toS (es : List S58) (e : Int) : Int := (rd_T58 es e).f1
structure CSt where
 l : CM
 cost : CM
 via : CM
def climbS (n : Nat) (S : HSt) (wl : List Int) (s : Int) : Nat → CSt
 | 0 => ⟨[], [(s, 0)], [(s, -1)]⟩
 | k + 1 =>
  match mget (climbS n S wl s k).cost (curP n S s k) with
  | none => climbS n S wl s k
  | some c => ⟨(climbS n S wl s k).l ++ [(curP n S s k, c)], ((upS n S (curP n S s k)).foldl (relaxG (toS S.edges) (sideS wl) c) ((climbS n S wl s k).cost, (climbS n S wl s k).via)).1, ((upS n S (curP n S s k)).foldl (relaxG (toS S.edges) (sideS wl) c) ((climbS n S wl s k).cost, (climbS n S wl s k).via)).2⟩
section
variable {n : Nat} {arcs : List S58} {L ws : List Int} {b : Bool} (h : Hk n arcs L)
include h
omit h in
theorem wtL_len : (wtL n arcs L ws b).length = eL n arcs L := by
 have h1 := sdTo_len n arcs L ws (eL n arcs L)
 unfold wtL
 cases b
 ·exact h1.1
 ·exact h1.2
omit h in
theorem side_wt {e : Nat} (he : e < eL n arcs L) : sideS (wtL n arcs L ws b) (e : Int) = wtS n arcs L ws b e := sideS_in (by rw [wtL_len]; exact he)
omit h in
theorem toS_at (e : Nat) : toS (hierS n arcs L).edges (e : Int) = eT n arcs L e := by
 unfold toS
 rw [rd_getD]
theorem Hk.cur_step {x y k : Nat} (hx : x < n) (hy : y < n) (hk : curP n (hierS n arcs L) (L.getD x 0) k = L.getD y 0) (h0 : 0 ≤ curP n (hierS n arcs L) (L.getD x 0) (k + 1)) : ∃ z : Nat, y < z ∧ z < n ∧ curP n (hierS n arcs L) (L.getD x 0) (k + 1) = L.getD z 0 := by
 have h4 : curP n (hierS n arcs L) (L.getD x 0) (k + 1) = parentS n (hierS n arcs L) (L.getD y 0) := by rw [← hk]; rfl
 rw [h4, h.par hy] at h0 ⊢
 by_cases e : plS L (hk0 n L (nbRows n arcs)) y = []
 ·rw [if_pos e] at h0
  omega
 ·rw [if_neg e]
  obtain ⟨z, h5, h6, h7⟩ := h.pl_rng hy (mem_getD (List.length_pos_iff.2 e))
  exact ⟨z, h6, h7, by rw [h5, Int.toNat_natCast]⟩
theorem Hk.cur_lt {x : Nat} (hx : x < n) : ∀ d k, 0 ≤ curP n (hierS n arcs L) (L.getD x 0) (k + d + 1) → ∃ y z : Nat, y < z ∧ z < n ∧ curP n (hierS n arcs L) (L.getD x 0) k = L.getD y 0 ∧ curP n (hierS n arcs L) (L.getD x 0) (k + d + 1) = L.getD z 0
 | 0, k, h0 => by
  have hk0 : 0 ≤ curP n (hierS n arcs L) (L.getD x 0) k := curP_back h0
  obtain ⟨y, hy, _, hy2⟩ := h.cur hx k hk0
  obtain ⟨z, h1, h2, h3⟩ := h.cur_step hx hy hy2 h0
  exact ⟨y, z, h1, h2, hy2, h3⟩
 | d + 1, k, h0 => by
  have hk0 : 0 ≤ curP n (hierS n arcs L) (L.getD x 0) (k + d + 1) := curP_back h0
  obtain ⟨y, m, h1, h2, h3, h4⟩ := Hk.cur_lt hx d k hk0
  obtain ⟨z, h5, h6, h7⟩ := h.cur_step hx h2 h4 h0
  exact ⟨y, z, by omega, h6, h3, h7⟩
omit h in
theorem curP_to {n : Nat} {S : HSt} {v : Int} {k : Nat} : ∀ d, 0 ≤ curP n S v (k + d) → 0 ≤ curP n S v k
 | 0, h0 => h0
 | d + 1, h0 => curP_to d (curP_back h0)
theorem Hk.in_up {i : Nat} (hi : i < eL n arcs L) {v : Int} (h0 : eF n arcs L i = v) : (i : Int) ∈ upS n (hierS n arcs L) v := by
 rw [h.up]
 unfold upIx
 rw [List.mem_map]
 refine ⟨((hierS n arcs L).edges[i], i), ?_, rfl⟩
 rw [List.mem_filter, decide_eq_true_eq]
 refine ⟨?_, by rw [← gA_ _ hi]; exact h0⟩
 rw [List.mem_zipIdx_iff_getElem?]
 exact List.getElem?_eq_getElem hi
theorem Hk.of_up {v e : Int} (he : e ∈ upS n (hierS n arcs L) v) : ∃ i : Nat, e = (i : Int) ∧ i < eL n arcs L ∧ eF n arcs L i = v := by
 rw [h.up] at he
 obtain ⟨i, hi, rfl, h1⟩ := mem_upIx he
 exact ⟨i, rfl, hi, by show ((hierS n arcs L).edges.getD i z58).f0 = v; rw [gA_ _ hi]; exact h1⟩
theorem Hk.up_on {x : Nat} (hx : x < n) : ∀ d y s k : Nat, s = y + d → curP n (hierS n arcs L) (L.getD x 0) k = L.getD y 0 → y < n → (s : Int) ∈ plS L (hk0 n L (nbRows n arcs)) y → ∃ j, k < j ∧ curP n (hierS n arcs L) (L.getD x 0) j = L.getD s 0 := by
 intro d
 induction d using Nat.strongRecOn with
 | ind d ih =>
  intro y s k hsd hk hy hs
  have hne : plS L (hk0 n L (nbRows n arcs)) y ≠ [] := fun e => by rw [e] at hs; simp at hs
  obtain ⟨m, h4, h5, h6⟩ := h.pl_rng hy (mem_getD (List.length_pos_iff.2 hne))
  have h7 : curP n (hierS n arcs L) (L.getD x 0) (k + 1) = L.getD m 0 := by
   show parentS n (hierS n arcs L) (curP n (hierS n arcs L) (L.getD x 0) k) = _
   rw [hk, h.par hy, if_neg hne, h4, Int.toNat_natCast]
  by_cases e : s = m
  ·subst e
   exact ⟨k + 1, by omega, h7⟩
  ·have hsm := (mem_pl (hk0_len h.ord (NGood.start h.chk)) (hk0_up h.ord (NGood.start h.chk)) h6 (s : Int)).2 (.inr ⟨y, h5, h4.symm, hs, by omega⟩)
   obtain ⟨z, z1, z2, z3⟩ := h.pl_rng h6 hsm
   obtain ⟨j, hj, hj2⟩ := ih (s - m) (by omega) m s (k + 1) (by omega) h7 h6 hsm
   exact ⟨j, by omega, hj2⟩
theorem Hk.edge_on {x k e : Nat} (hx : x < n) (he : e < eL n arcs L) (h0 : eF n arcs L e = curP n (hierS n arcs L) (L.getD x 0) k) : ∃ j, k < j ∧ curP n (hierS n arcs L) (L.getD x 0) j = eT n arcs L e ∧ 0 ≤ curP n (hierS n arcs L) (L.getD x 0) j := by
 obtain ⟨y, s, hys, hsn, e0, e1, hm⟩ := h.edge_rk he
 obtain ⟨k', hk', hk1, hk2⟩ := (mem_rankEdges n).1 hm
 have ek : k' = y := by omega
 subst ek
 obtain ⟨j, hj, hj2⟩ := h.up_on hx (s - k') k' s k (by omega) (by rw [← h0, e0]) hk' hk2
 refine ⟨j, hj, by rw [hj2, e1], ?_⟩
 rw [hj2]
 exact (ord_vx h.ord hsn).1
omit h in
structure CInv (n : Nat) (arcs : List S58) (L ws : List Int) (b : Bool) (x k : Nat) (st : CSt) : Prop where
 src : mget st.cost (L.getD x 0) = some 0
 att : ∀ u c, mget st.cost u = some c → UpP n arcs L ws b (L.getD x 0) u c
 via : ∀ u c, mget st.cost u = some c → (u = L.getD x 0 ∧ mget st.via u = some (-1)) ∨ ∃ (e j : Nat) (c0 : Int), mget st.via u = some (e : Int) ∧ e < eL n arcs L ∧ eT n arcs L e = u ∧ j < k ∧ eF n arcs L e = curP n (hierS n arcs L) (L.getD x 0) j ∧ mget st.cost (eF n arcs L e) = some c0 ∧ c = c0 + wtS n arcs L ws b e ∧ wtS n arcs L ws b e < mInf
 rel : ∀ j, j < k → ∀ c e, mget st.cost (curP n (hierS n arcs L) (L.getD x 0) j) = some c → e < eL n arcs L → eF n arcs L e = curP n (hierS n arcs L) (L.getD x 0) j → wtS n arcs L ws b e < mInf → ∃ c', mget st.cost (eT n arcs L e) = some c' ∧ c' ≤ c + wtS n arcs L ws b e
 lst : st.l = (List.range k).filterMap (fun j => (mget st.cost (curP n (hierS n arcs L) (L.getD x 0) j)).map (fun c => (curP n (hierS n arcs L) (L.getD x 0) j, c)))
omit h in
theorem cinv0 {x : Nat} : CInv n arcs L ws b x 0 (climbS n (hierS n arcs L) (wtL n arcs L ws b) (L.getD x 0) 0) := by
 have hg : ∀ u c, mget [(L.getD x 0, (0 : Int))] u = some c → u = L.getD x 0 ∧ c = 0 := fun u c hc => by
  rw [mget_cons] at hc
  split at hc
  ·rename_i hu
   injection hc with hc
   exact ⟨hu.symm, hc.symm⟩
  ·cases hc
 refine ⟨by unfold climbS; rw [mget_cons, if_pos rfl], fun u c hc => ?_, fun u c hc => ?_, fun j hj => by omega, rfl⟩
 ·obtain ⟨rfl, rfl⟩ := hg u c hc
  exact UpP.nil
 ·obtain ⟨rfl, rfl⟩ := hg u c hc
  exact .inl ⟨rfl, by unfold climbS; rw [mget_cons, if_pos rfl]⟩
theorem Hk.cinv_step {x k : Nat} (hx : x < n) (hk0 : 0 ≤ curP n (hierS n arcs L) (L.getD x 0) k) (hI : CInv n arcs L ws b x k (climbS n (hierS n arcs L) (wtL n arcs L ws b) (L.getD x 0) k)) : CInv n arcs L ws b x (k + 1) (climbS n (hierS n arcs L) (wtL n arcs L ws b) (L.getD x 0) (k + 1)) := by
 have hnT : ∀ j, j ≤ k → ∀ e ∈ upS n (hierS n arcs L) (curP n (hierS n arcs L) (L.getD x 0) k), toS (hierS n arcs L).edges e ≠ curP n (hierS n arcs L) (L.getD x 0) j := by
  intro j hj e he heq
  obtain ⟨i, rfl, hi, h0⟩ := h.of_up he
  rw [toS_at] at heq
  obtain ⟨j2, hj2, hj3, hj4⟩ := h.edge_on hx hi h0
  obtain ⟨d, hd⟩ : ∃ d, j2 = j + d + 1 := ⟨j2 - j - 1, by omega⟩
  subst hd
  obtain ⟨y, z, h1, h2, h3, h4⟩ := h.cur_lt hx d j hj4
  have h5 : L.getD y 0 = L.getD z 0 := by rw [← h3, ← h4, hj3, heq]
  have := ord_inj h.ord (show y < n by omega) h2 h5
  omega
 unfold climbS
 split
 ·rename_i hn
  refine ⟨hI.src, hI.att, fun u c hc => ?_, fun j hj c e hc he h0 hw => ?_, ?_⟩
  ·rcases hI.via u c hc with h1 | ⟨e, j, c0, p⟩
   ·exact .inl h1
   ·exact .inr ⟨e, j, c0, p.1, p.2.1, p.2.2.1, by have := p.2.2.2.1; omega, p.2.2.2.2⟩
  ·by_cases hjk : j = k
   ·subst hjk
    rw [hn] at hc
    cases hc
   ·exact hI.rel j (by omega) c e hc he h0 hw
  ·rw [List.range_succ, List.filterMap_append, ← hI.lst, fm_none (by rw [hn]; rfl), List.append_nil]
 ·rename_i c hc
  have P := relax_fold (toS (hierS n arcs L).edges) (sideS (wtL n arcs L ws b)) c (upS n (hierS n arcs L) (curP n (hierS n arcs L) (L.getD x 0) k)) ((climbS n (hierS n arcs L) (wtL n arcs L ws b) (L.getD x 0) k).cost, (climbS n (hierS n arcs L) (wtL n arcs L ws b) (L.getD x 0) k).via)
  generalize climbS n (hierS n arcs L) (wtL n arcs L ws b) (L.getD x 0) k = st at hI hc P ⊢
  generalize (upS n (hierS n arcs L) (curP n (hierS n arcs L) (L.getD x 0) k)).foldl (relaxG (toS (hierS n arcs L).edges) (sideS (wtL n arcs L ws b)) c) (st.cost, st.via) = st' at P ⊢
  obtain ⟨C', V'⟩ := st'
  have hout : ∀ j, j ≤ k → mget C' (curP n (hierS n arcs L) (L.getD x 0) j) = mget st.cost (curP n (hierS n arcs L) (L.getD x 0) j) ∧ mget V' (curP n (hierS n arcs L) (L.getD x 0) j) = mget st.via (curP n (hierS n arcs L) (L.getD x 0) j) := fun j hj => P.out _ (hnT j hj)
  refine ⟨(hout 0 (by omega)).1.trans hI.src, fun u c' hc' => ?_, fun u c' hc' => ?_, fun j hj c1 e hc1 he h0 hw => ?_, ?_⟩
  ·rcases P.att u c' hc' with ⟨p1, _⟩ | ⟨e, he, p1, p2, p3, _⟩
   ·exact hI.att u c' p1
   ·obtain ⟨i, rfl, hi, h0⟩ := h.of_up he
    rw [toS_at] at p1
    rw [side_wt hi] at p2 p3
    subst p1 p3
    exact UpP.snoc i (hI.att _ _ hc) hi h0 p2
  ·rcases P.att u c' hc' with ⟨p1, p2⟩ | ⟨e, he, p1, p2, p3, p4⟩
   ·rcases hI.via u c' p1 with ⟨q1, q2⟩ | ⟨e, j, c0, q1, q2, q3, q4, q5, q6, q7⟩
    ·exact .inl ⟨q1, p2.trans q2⟩
    ·refine .inr ⟨e, j, c0, p2.trans q1, q2, q3, by omega, q5, ?_, q7⟩
     rw [q5] at q6 ⊢
     exact (hout j (by omega)).1.trans q6
   ·obtain ⟨i, rfl, hi, h0⟩ := h.of_up he
    rw [toS_at] at p1
    rw [side_wt hi] at p2 p3
    refine .inr ⟨i, k, c, p4, hi, p1, by omega, h0, ?_, p3, p2⟩
    rw [h0]
    exact (hout k (Nat.le_refl _)).1.trans hc
  ·by_cases hjk : j = k
   ·subst hjk
    have h2 : mget C' (curP n (hierS n arcs L) (L.getD x 0) j) = some c := (hout j (Nat.le_refl _)).1.trans hc
    have h3 : some c1 = some c := hc1.symm.trans h2
    injection h3 with h3
    subst h3
    obtain ⟨c', r1, r2⟩ := P.rel (e : Int) (h.in_up he h0) (by rw [side_wt he]; exact hw)
    rw [toS_at] at r1
    rw [side_wt he] at r2
    exact ⟨c', r1, r2⟩
   ·obtain ⟨c', r1, r2⟩ := hI.rel j (by omega) c1 e ((hout j (by omega)).1.symm.trans hc1) he h0 hw
    obtain ⟨c2, r3, r4⟩ := P.mono _ _ r1
    exact ⟨c2, r3, by omega⟩
  ·show st.l ++ [(curP n (hierS n arcs L) (L.getD x 0) k, c)] = (List.range (k + 1)).filterMap (fun j => (mget C' (curP n (hierS n arcs L) (L.getD x 0) j)).map (fun c => (curP n (hierS n arcs L) (L.getD x 0) j, c)))
   rw [List.range_succ, List.filterMap_append, hI.lst]
   rw [fm_some (k := k) (show (mget C' (curP n (hierS n arcs L) (L.getD x 0) k)).map (fun c => (curP n (hierS n arcs L) (L.getD x 0) k, c)) = some (curP n (hierS n arcs L) (L.getD x 0) k, c) by rw [(hout k (Nat.le_refl _)).1, hc]; rfl)]
   rw [fm_congr (f := fun j => (mget C' (curP n (hierS n arcs L) (L.getD x 0) j)).map (fun c => (curP n (hierS n arcs L) (L.getD x 0) j, c))) (g := fun j => (mget st.cost (curP n (hierS n arcs L) (L.getD x 0) j)).map (fun c => (curP n (hierS n arcs L) (L.getD x 0) j, c))) (List.range k) (fun j hj => by
    rw [List.mem_range] at hj
    rw [(hout j (by omega)).1])]
theorem Hk.cinv {x : Nat} (hx : x < n) : ∀ k, (∀ j, j < k → 0 ≤ curP n (hierS n arcs L) (L.getD x 0) j) → CInv n arcs L ws b x k (climbS n (hierS n arcs L) (wtL n arcs L ws b) (L.getD x 0) k)
 | 0, _ => cinv0
 | k + 1, hk => h.cinv_step hx (hk k (by omega)) (Hk.cinv hx k (fun j hj => hk j (by omega)))
theorem Hk.path_on {x : Nat} (hx : x < n) {u c : Int} (hp : UpP n arcs L ws b (L.getD x 0) u c) : ∃ j, curP n (hierS n arcs L) (L.getD x 0) j = u ∧ 0 ≤ u := by
 induction hp with
 | nil => exact ⟨0, rfl, (ord_vx h.ord hx).1⟩
 | snoc e _ he h0 hw ih =>
  obtain ⟨j, h1, h2⟩ := ih
  obtain ⟨j2, _, h3, h4⟩ := h.edge_on hx he (h0.trans h1.symm)
  exact ⟨j2, h3, by rw [← h3]; exact h4⟩
theorem Hk.climb_low {x K : Nat} (hx : x < n) (hK : curP n (hierS n arcs L) (L.getD x 0) K < 0) {st : CSt} (hI : CInv n arcs L ws b x K st) {u c : Int} (hp : UpP n arcs L ws b (L.getD x 0) u c) : ∃ c', mget st.cost u = some c' ∧ c' ≤ c := by
 induction hp with
 | nil => exact ⟨0, hI.src, Int.le_refl _⟩
 | snoc e hq he h0 hw ih =>
  obtain ⟨c', h1, h2⟩ := ih
  obtain ⟨j, h3, h4⟩ := h.path_on hx hq
  have hjK : j < K := Nat.lt_of_not_le (fun hle => by
   have := curP_to (n := n) (S := hierS n arcs L) (v := L.getD x 0) (k := K) (j - K) (by rw [show K + (j - K) = j by omega, h3]; exact h4)
   omega)
  rw [← h3] at h1
  obtain ⟨c2, r1, r2⟩ := hI.rel j hjK c' e h1 he (h0.trans h3.symm) hw
  exact ⟨c2, r1, by omega⟩
end
theorem Hk.rank_neg {n : Nat} {arcs : List S58} {L : List Int} (h : Hk n arcs L) (v : Int) : rankS n (ranksTo L L.length) v < 0 ↔ hasV n v = false := by
 cases hv : hasV n v with
 | false =>
  unfold rankS
  rw [hv]
  simp
 | true =>
  obtain ⟨k, hk, rfl⟩ := hasV_iff.1 hv
  obtain ⟨x, hx, _, hx2⟩ := at_rank h.ord hk
  have h1 := h.rank_of hx
  rw [hx2] at h1
  rw [h1]
  constructor
  ·intro h2
   omega
  ·intro h2
   cases h2
def allV (n : Nat) (l : List Int) : Bool := l.all (hasV n)
def chkE (n : Nat) (l : List Int) : Int := if allV n l = true then 0 else 2
set_option maxHeartbeats 3200000 in
set_option maxRecDepth 100000 in
theorem query_check.calls {w : World} {q p n : Nat} {arcs : List S58} {L ws : List Int} (hk : Hk n arcs L) (hn : n ≤ 1000) (hM : MetH w q p n arcs L ws) {lA : Option Addr} {lc : Nat} {l : List Int} (hl : Kd.C (Kd.int .i64) w lA l.length l) (hll : l.length ≤ 1000) :
  Calls Try.prog 47 #[.pointer (some ⟨q, 0, none⟩), .slice lA l.length lc] w fun e w' => e = .returned (.int .i64 (chkE n l)) ∧ w' = w := by
 have HK := Aside0.mk hk
 have HM := Aside0.mk hM
 have HL := Aside0.mk hl
 clear hk hM hl
 go_enter Try.func47, Try.ntmps47
 go_wp2_with (fail)
 go_loopw [11] (fun i wr => ∃ (j : Nat), i = .int .i64 (j : Int) ∧ j ≤ l.length ∧ Aside0 (∀ i, i < j → hasV n (l.getD i 0) = true) ∧ wr = w) (fun i _ => l.length - (intOf i).toNat)
 case atStart => exact ⟨0, rfl, Nat.zero_le _, ⟨fun i hi => by omega⟩, rfl⟩
 case round =>
  obtain ⟨j, rfl, hj, HV, rfl⟩ := hrel
  by_cases hjl : j < l.length
  ·rcases cells_of_C HL.out with ⟨hz, _⟩ | ⟨_, ab, ao, hA1, hce⟩
   ·omega
   subst hA1
   have hca := hce j hjl
   clear hce
   obtain ⟨v, HVJ⟩ : ∃ v, Aside0 (l.getD j 0 = v) := ⟨_, ⟨rfl⟩⟩
   rw [HVJ.out] at hca
   go_wp2_with (fail)
   refine (Metric_Hier.calls (HM.out.reads HK.out hn)).mono ?_
   rintro e w1 ⟨rfl, rfl⟩
   go_wp2_with (fail)
   refine (Hier_Rank.calls HM.out.hier HK.out.lenR v).mono ?_
   rintro e w1 ⟨rfl, rfl⟩
   have hrn := HK.out.rank_neg v
   obtain ⟨r, HR⟩ : ∃ r, Aside0 (rankS n (ranksTo L L.length) v = r) := ⟨_, ⟨rfl⟩⟩
   rw [HR.out] at hrn ⊢
   by_cases hr : r < 0
   ·have HE : Aside0 (chkE n l = 2) := ⟨by
     refine if_neg ?_
     rw [Bool.not_eq_true]
     unfold allV
     rw [List.all_eq_false]
     refine ⟨v, ?_, by rw [hrn.1 hr]; decide⟩
     rw [← HVJ.out, getD_at hjl]
     exact List.getElem_mem hjl⟩
    clear hrn
    go_wp2
    go_ret
    exact ⟨by rw [HE.out]; rfl, rfl⟩
   ·have HV2 : Aside0 (∀ i, i < j + 1 → hasV n (l.getD i 0) = true) := ⟨fun i hi => by
     by_cases hij : i = j
     ·subst hij
      rw [HVJ.out]
      cases hv : hasV n v with
      | true => rfl
      | false => exact absurd (hrn.2 hv) hr
     ·exact HV.out i (by omega)⟩
    clear hrn
    go_wp2_with (fail)
    go_roundw
    case rel => exact ⟨j + 1, by go_num, by omega, HV2, by first | exact trivial | rfl⟩
    case measure => simp [intOf]; omega
  ·have HE : Aside0 (chkE n l = 0) := ⟨by
    refine if_pos ?_
    unfold allV
    rw [List.all_eq_true]
    intro v hv
    obtain ⟨i, hi, rfl⟩ := List.getElem_of_mem hv
    rw [← getD_at hi]
    exact HV.out i (by omega)⟩
   go_wp2
   go_ret
   exact ⟨by rw [HE.out]; rfl, rfl⟩
section
variable {κ ε : Type} [DecidableEq κ] {encK : κ → Value} {encE : ε → Value} {P : Program} {w : World} {b : Nat} {m : List (κ × ε)} {t kt et : TypeId} {ops : Array Oper} {rest : List Oper} {o : Oper} {a : Act} {Q : Exit → Act → World → Prop} {Kc : Act → World → Prop}
theorem wp_insert_map (K : KeyKind P kt encK) (ht : P.underlying t = some (.map kt et)) (hg : o.guard = none) (mo x vo : Operand) (hop : o.op = Op.insert t mo x vo) (hd : o.dst = none)
  (h : MapIs encK encE w b m) (k : κ) (v : ε) (hm : a.eval mo = .map (some b)) (hx : a.eval x = encK k) (hv : a.eval vo = encE v)
  (hK : ∀ w1, MapIs encK encE w1 b (mput m k v) → w.grownBy w1 (some b) → wpList P ops Q rest a w1) :
  wpList P ops Q (o :: rest) a w := by
 refine wpList_plain hg fun K' hK' => ?_
 obtain ⟨w1, hrun, h1, h2⟩ := run_mapUpdate_map K ht h k v
 unfold Oper.wp
 simp only [execOp, hop, hm, hx, hv, Sem.run_bind, hrun, Result.andThen_ok, Sem.run_pure]
 have := hK w1 h1 h2
 exact hK' _ _ (by rw [hd]; exact this)
theorem step_mapUpdate (K : KeyKind P kt encK) (ht : P.underlying t = some (.map kt et)) (hw : Region.wanted o (yielded ops a.tmps) = true) (hN : o.dst = none) (mo x vo : Operand) (hop : o.op = .mapUpdate t mo x vo) (h : MapIs encK encE w b m) (k : κ) (v : ε) (hm : a.eval mo = .map (some b)) (hx : a.eval x = encK k) (hv : a.eval vo = encE v)
  (hK : ∀ w1, Aside0 (MapIs encK encE w1 b (mput m k v)) → Aside0 (w.grownBy w1 (some b)) → Kc a w1) :
  if Region.wanted o (yielded ops a.tmps) = true then Oper.wp P o a w Kc Q else Kc (a.put none undef) w := by
 obtain ⟨w1, hrun, h1, h2⟩ := run_mapUpdate_map K ht h k v
 refine skip_ (w1 := w1) hw hN ?_ (hK w1 ⟨h1⟩ ⟨h2⟩)
 simp only [execOp, hop, hm, hx, hv, Sem.run_bind, hrun, Result.andThen_ok, Sem.run_pure]
end
theorem oN_ {P : Program} {ops : Array Oper} {Q : Exit → Act → World → Prop} {md : Region.Mode} {S : World → Prop} {ds : List Nat} (i : Nat) {n m fuel : Nat} {oi : Oper} {a : Act} {w : World} (h : ∀ K : Act → World → Prop, Shut (∀ a' w', S w' → (S w' → wpAnyLast P md ops Q S ds fuel (bits n (m ||| (1 <<< i))) a' w') → K a' w') → if Region.wanted oi (yielded ops a.tmps) = true then Oper.wp P oi a w K Q else K (a.put none undef) w)
  (hi : ops[i]? = some oi := by rfl) (hN : oi.dst = none := by rfl) (hc : readyB md ops (bits n m) (bits n (m ||| (1 <<< i))) i = true := by kernel_rfl) (hd : i ∉ ds := by decide) : wpAnyLast P md ops Q S ds (fuel + 1) (bits n m) a w := one_ (bits n (m ||| (1 <<< i))) hi hN hc hd h
theorem qKey : KeyKind Try.prog 3 (Value.int .i64) := intKey Try.underlying3
def toR (p : Int × Int) : S50 := ⟨p.1, p.2⟩
structure CW (w4 wr : World) (b10 mc mv B1 : Nat) (lv : Value) (rl : List S50) (cost via : CM) : Prop where
 bel : Bel (fun k => k = mc ∨ k = mv ∨ k = b10) w4 wr
 blk : wr.heap[b10]? = some (.cells #[lv, .map (some mc), .map (some mv)] 96 (0, 0))
 cost : MapIs (Value.int .i64) (Value.int .i64) wr mc cost
 via : MapIs (Value.int .i64) (Value.int .i64) wr mv via
 lst : Kd.R k50 50 wr B1 (fun _ => True) lv rl
 lo : mc < mv ∧ mv < b10 ∧ b10 < B1
 sz : B1 ≤ w4.heap.size
section
variable {w4 wr w1 : World} {b10 mc mv B1 : Nat} {lv : Value} {rl : List S50} {cost via : CM}
theorem CW.below (h : CW w4 wr b10 mc mv B1 lv rl cost via) (hb : Below wr.heap.size wr w1) : CW w4 w1 b10 mc mv B1 lv rl cost via :=
 ⟨h.bel.below hb, blk_below h.blk hb, h.cost.below hb, h.via.below hb, Kd.R_below h.lst hb, h.lo, h.sz⟩
theorem CW.lst_far (h : CW w4 wr b10 mc mv B1 lv rl cost via) {d : Nat} (hd : d < B1) (hb : ∀ k, k < wr.heap.size → k ≠ d → w1.heap[k]? = wr.heap[k]?) : Kd.R k50 50 w1 B1 (fun _ => True) lv rl :=
 Kd.R_mono (Kd.R_step (Kd.R_bound h.lst) (fun k hk hlt => hb k hlt (by have := hk.2.1; omega))) (fun _ _ => trivial)
theorem CW.putC (h : CW w4 wr b10 mc mv B1 lv rl cost via) {m' : CM} (hm : MapIs (Value.int .i64) (Value.int .i64) w1 mc m') (hg : wr.grownBy w1 (some mc)) : CW w4 w1 b10 mc mv B1 lv rl m' via := by
 have hl := h.lo
 have hgb : ∀ k, k < wr.heap.size → k ≠ mc → w1.heap[k]? = wr.heap[k]? := fun k hk hne => hg.block k hk (fun e => hne (Option.some.inj e))
 exact ⟨h.bel.grown hg (fun k hk => .inl (.inl (Option.some.inj hk).symm)), (hgb b10 (hblk_lt h.blk) (by omega)).trans h.blk, hm, h.via.keep (hgb mv h.via.lt (by omega)), h.lst_far (d := mc) (by omega) hgb, hl, h.sz⟩
theorem CW.putV (h : CW w4 wr b10 mc mv B1 lv rl cost via) {m' : CM} (hm : MapIs (Value.int .i64) (Value.int .i64) w1 mv m') (hg : wr.grownBy w1 (some mv)) : CW w4 w1 b10 mc mv B1 lv rl cost m' := by
 have hl := h.lo
 have hgb : ∀ k, k < wr.heap.size → k ≠ mv → w1.heap[k]? = wr.heap[k]? := fun k hk hne => hg.block k hk (fun e => hne (Option.some.inj e))
 exact ⟨h.bel.grown hg (fun k hk => .inl (.inr (.inl (Option.some.inj hk).symm))), (hgb b10 (hblk_lt h.blk) (by omega)).trans h.blk, h.cost.keep (hgb mc h.cost.lt (by omega)), hm, h.lst_far (d := mv) (by omega) hgb, hl, h.sz⟩
theorem CW.push (h : CW w4 wr b10 mc mv B1 lv rl cost via) {lv' : Value} {rl' : List S50} (hr : Kd.R k50 50 w1 B1 (fun _ => True) lv' rl') (hb : Below B1 wr w1) (hbw : Bel (fun k => k = mc ∨ k = mv ∨ k = b10) w4 w1) : CW w4 (w1.setCell ⟨b10, 0, none⟩ lv') b10 mc mv B1 lv' rl' cost via := by
 have hl := h.lo
 have hs := h.sz
 have hw := h.bel.size
 have hne : ∀ k, k ≠ b10 → (w1.setCell ⟨b10, 0, none⟩ lv').heap[k]? = w1.heap[k]? := fun k hk => Below.heap_setCell w1 ⟨b10, 0, none⟩ lv' k hk
 have hblk := (hb.block b10 hl.2.2).trans h.blk
 refine ⟨hbw.setCell _ _ (.inl (.inr (.inr rfl))), ?_, h.cost.keep ((hne mc (by omega)).trans (hb.block mc (by omega))), h.via.keep ((hne mv (by omega)).trans (hb.block mv (by omega))), ?_, hl, hs⟩
 ·simp [World.setCell, Array.getElem?_modify, hblk]
 ·exact Kd.R_mono (Kd.R_step (Kd.R_bound hr) (fun k hk hlt => hne k (by have := hk.2.1; omega))) (fun _ _ => trivial)
end
theorem climbS_none {n : Nat} {S : HSt} {wl : List Int} {s : Int} {k : Nat} (h : mget (climbS n S wl s k).cost (curP n S s k) = none) : climbS n S wl s (k + 1) = climbS n S wl s k := by
 conv => lhs; unfold climbS
 rw [h]
theorem climbS_some {n : Nat} {S : HSt} {wl : List Int} {s : Int} {k : Nat} {c : Int} (h : mget (climbS n S wl s k).cost (curP n S s k) = some c) : climbS n S wl s (k + 1) = ⟨(climbS n S wl s k).l ++ [(curP n S s k, c)], ((upS n S (curP n S s k)).foldl (relaxG (toS S.edges) (sideS wl) c) ((climbS n S wl s k).cost, (climbS n S wl s k).via)).1, ((upS n S (curP n S s k)).foldl (relaxG (toS S.edges) (sideS wl) c) ((climbS n S wl s k).cost, (climbS n S wl s k).via)).2⟩ := by
 conv => lhs; unfold climbS
 rw [h]
theorem Hk.path_small {n : Nat} {arcs : List S58} {L ws : List Int} {b : Bool} (h : Hk n arcs L) (hwl : ws.length = arcs.length) (hwr : ∀ i, i < ws.length → ws.getD i 0 ≤ 1073741824) (hn : n ≤ 20) {x : Nat} (hx : x < n) {u c : Int} (hp : UpP n arcs L ws b (L.getD x 0) u c) : ∃ y : Nat, y < n ∧ u = L.getD y 0 ∧ x ≤ y ∧ c ≤ ((y - x : Nat) : Int) * 1125899906842624 := by
 induction hp with
 | nil => exact ⟨x, hx, rfl, Nat.le_refl _, by omega⟩
 | snoc e _ he h0 hw ih =>
  obtain ⟨y, h1, h2, h3, h4⟩ := ih
  obtain ⟨y', z, k1, k2, k3, k4, _⟩ := h.edge_rk he
  have e1 : y' = y := ord_inj h.ord (by omega) h1 (by rw [← k3, h0, h2])
  subst e1
  have h5 := h.wt_small hwl hwr hn he hw
  exact ⟨z, k2, k4, by omega, by omega⟩
theorem Hk.path_bound {n : Nat} {arcs : List S58} {L ws : List Int} {b : Bool} (h : Hk n arcs L) (hwl : ws.length = arcs.length) (hwr : ∀ i, i < ws.length → ws.getD i 0 ≤ 1073741824) (hn : n ≤ 20) {x : Nat} (hx : x < n) {u c : Int} (hp : UpP n arcs L ws b (L.getD x 0) u c) : 0 ≤ c ∧ c ≤ 22517998136852480 := by
 obtain ⟨y, h1, _, h3, h4⟩ := h.path_small hwl hwr hn hx hp
 exact ⟨hp.nonneg, by omega⟩
theorem Hk.capu7 {n : Nat} {arcs : List S58} {L : List Int} (h : Hk n arcs L) (hn : n ≤ 1000) (v : Nat) : ((hierS n arcs L).ups.getD v []).length ≤ 1000000 := by
 have h1 := h.short hn
 by_cases hv : v < n
 ·rw [h.inv.ups v hv]
  have := upIx_len (hierS n arcs L).edges v
  omega
 ·rw [List.getD_eq_getElem?_getD, List.getElem?_eq_none (by rw [h.inv.lenu]; omega)]
  simp
def climbM (n : Nat) (L : List Int) (v : Int) : Nat := if 0 ≤ v then n - (rankS n (ranksTo L L.length) v).toNat else 0
theorem Hk.climbM_at {n : Nat} {arcs : List S58} {L : List Int} (h : Hk n arcs L) {y : Nat} (hy : y < n) : climbM n L (L.getD y 0) = n - y := by
 unfold climbM
 rw [if_pos (ord_vx h.ord hy).1, h.rank_of hy, Int.toNat_natCast]
theorem Hk.climbM_lt {n : Nat} {arcs : List S58} {L : List Int} (h : Hk n arcs L) {x : Nat} (hx : x < n) (k : Nat) (hk : 0 ≤ curP n (hierS n arcs L) (L.getD x 0) k) : climbM n L (curP n (hierS n arcs L) (L.getD x 0) (k + 1)) < climbM n L (curP n (hierS n arcs L) (L.getD x 0) k) := by
 obtain ⟨y, hy, _, hy2⟩ := h.cur hx k hk
 by_cases h0 : 0 ≤ curP n (hierS n arcs L) (L.getD x 0) (k + 1)
 ·obtain ⟨z, h1, h2, h3⟩ := h.cur_step hx hy hy2 h0
  rw [hy2, h3, h.climbM_at hy, h.climbM_at h2]
  omega
 ·rw [hy2, h.climbM_at hy]
  unfold climbM
  rw [if_neg h0]
  omega
theorem bCh {b : Nat} {w w1 w2 : World} (h : Below b w w1) (h' : Below b w1 w2) : Below b w w2 :=
 ⟨h'.os.trans h.os, h'.tape.trans h.tape, h'.output.trans h.output, Nat.le_trans h.size h'.size, fun k hk => (h'.block k hk).trans (h.block k hk)⟩
theorem bLo {b t : Nat} {w w' : World} (h : Below b w w') (hb : t ≤ b) : Below t w w' := ⟨h.os, h.tape, h.output, h.size, fun k hk => h.block k (by omega)⟩
theorem cell_keep {w w1 : World} {b i : Nat} {v : Value} (h : w1.heap[b]? = w.heap[b]?) (hc : w.cell? ⟨b, i, none⟩ = some v) : w1.cell? ⟨b, i, none⟩ = some v := by
 rw [← hc]
 unfold World.cell?
 rw [h]
end Go.Proofs.Ytfnophaiamkmpaa.Print
