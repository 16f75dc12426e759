/- Several texts of this claim in one: HP37r, HXWith. -/
import Derived.Test.YtcfeehaoeaoegaaM6
import Derived.Test.YtcfeehaoeaoegaaF15
import Derived.Test.YtcfeehaoeaoegaaM0
import Derived.Test.YtcfeehaoeaoegaaM1
namespace Go.Proofs.Ytcfeehaoeaoegaa.Print
open Go.RowKit Go.Proofs.YtcfeehaoeaoegaaW.PrintWords Go.Proofs.YtcfeehaoeaoegaaW.PrintLast Go.Proofs.YtcfeehaoeaoegaaW.PrintMore
set_option linter.unusedVariables false
set_option linter.unusedSimpArgs false

theorem has_l0 (s : List Int) (x : Int) (hs : s.length < 1000000000000) : ∀ d j : Nat, j + d = s.length → Ev (fun k => mapmakerref05_Has.l0 k s x (j : Int)) (decide (x ∈ s.drop j))
 | 0, j, h => by
  have hj : j = s.length := by omega
  subst hj
  rw [List.drop_length]
  refine Ev.step1 fun k => ?_
  simp only [mapmakerref05_Has.l0]
  rw [if_neg (by omega)]
  rfl
 | d + 1, j, h => by
  have hj : j < s.length := by omega
  have ih := has_l0 s x hs d (j + 1) (by omega)
  rw [List.drop_eq_getElem_cons hj]
  by_cases e : s[j] = x
  ·have : decide (x ∈ s[j] :: s.drop (j + 1)) = true := decide_eq_true (by rw [List.mem_cons]; exact .inl e.symm)
   rw [this]
   refine Ev.step1 fun k => ?_
   simp only [mapmakerref05_Has.l0]
   rw [if_pos (by omega), if_pos (by omega), rd_int s j hj, if_pos e]
  ·have e' : ¬ x = s[j] := fun h => e h.symm
   have : decide (x ∈ s[j] :: s.drop (j + 1)) = decide (x ∈ s.drop (j + 1)) := by
    rw [decide_eq_decide, List.mem_cons]
    exact ⟨fun h => h.resolve_left e', .inr⟩
   rw [this]
   refine Ev.step (fun k => ?_) ih
   simp only [mapmakerref05_Has.l0]
   rw [if_pos (by omega), if_pos (by omega), rd_int s j hj, if_neg e, wrap_succ (by omega)]
theorem mapmakerref05_Has.ev (s : List Int) (x : Int) (hs : s.length < 1000000000000) : Ev (fun k => mapmakerref05_Has.f k s x) (decide (x ∈ s)) := has_l0 s x hs s.length 0 (by omega)
theorem with_l1 (s : List Int) (hs : s.length < 1000000000000) : ∀ (d j : Nat) (o : List Int), j + d = s.length → o.length ≤ j + 1 → Ev (fun k => mapmakerref05_With.l1 k s o (j : Int)) (o ++ s.drop j)
 | 0, j, o, h, ho => by
  have hj : j = s.length := by omega
  subst hj
  rw [List.drop_length, List.append_nil]
  refine Ev.step1 fun k => ?_
  simp only [mapmakerref05_With.l1]
  rw [if_neg (by omega)]
 | d + 1, j, o, h, ho => by
  have hj : j < s.length := by omega
  have ih := with_l1 s hs d (j + 1) (o ++ [s[j]]) (by omega) (by simp; omega)
  rw [List.append_assoc, List.singleton_append, ← List.drop_eq_getElem_cons hj] at ih
  refine Ev.step (fun k => ?_) ih
  simp only [mapmakerref05_With.l1]
  rw [if_pos (by omega), if_pos (by omega), if_pos (by omega), rd_int s j hj, wrap_succ (by omega)]
theorem with_l0 (s : List Int) (x : Int) (hs : s.length < 1000000000000) (hx : x ∉ s) : ∀ (d j : Nat), j + d = s.length → Ev (fun k => mapmakerref05_With.l0 k s x (s.take j) (j : Int)) (s.take j ++ ins x (s.drop j))
 | 0, j, h => by
  have hj : j = s.length := by omega
  subst hj
  rw [List.drop_length, List.take_length]
  have h1 := with_l1 s hs 0 s.length (s ++ [x]) (by omega) (by simp)
  rw [List.drop_length, List.append_nil] at h1
  have h2 : Ev (fun k => mapmakerref05_With.j1 k s x s (s.length : Int)) (s ++ [x]) := Ev.step (fun k => by simp only [mapmakerref05_With.j1]; rw [if_pos (by omega)]) h1
  refine Ev.step (fun k => ?_) h2
  simp only [mapmakerref05_With.l0]
  rw [if_neg (by omega)]
 | d + 1, j, h => by
  have hj : j < s.length := by omega
  rw [List.drop_eq_getElem_cons hj]
  by_cases e : s[j] < x
  ·have ih := with_l0 s x hs hx d (j + 1) (by omega)
   rw [List.take_succ_eq_append_getElem hj, List.append_assoc, List.singleton_append] at ih
   unfold ins
   rw [if_pos e]
   refine Ev.step (fun k => ?_) ih
   simp only [mapmakerref05_With.l0]
   rw [if_pos (by omega), if_pos (by omega), rd_int s j hj, if_pos e, if_pos (by simp; omega), wrap_succ (by omega)]
  ·have hne : ¬ s[j] = x := fun h => hx (h ▸ List.getElem_mem hj)
   unfold ins
   rw [if_neg e, if_neg hne]
   have h1 := with_l1 s hs (d + 1) j (s.take j ++ [x]) (by omega) (by simp; omega)
   rw [List.append_assoc, List.singleton_append, List.drop_eq_getElem_cons hj] at h1
   have h2 : Ev (fun k => mapmakerref05_With.j1 k s x (s.take j) (j : Int)) (s.take j ++ x :: s[j] :: s.drop (j + 1)) := Ev.step (fun k => by simp only [mapmakerref05_With.j1]; rw [if_pos (by simp; omega)]) h1
   refine Ev.step (fun k => ?_) h2
   simp only [mapmakerref05_With.l0]
   rw [if_pos (by omega), if_pos (by omega), rd_int s j hj, if_neg e]
theorem mapmakerref05_With.ev (s : List Int) (x : Int) (hs : s.length < 1000000000000) (hi : Inc s) : Ev (fun k => mapmakerref05_With.f k s x) (ins x s) := by
 unfold mapmakerref05_With.f
 refine Ev.bind (mapmakerref05_Has.ev s x hs) ?_
 by_cases h : x ∈ s
 ·simp only [decide_eq_true h, if_true]
  rw [ins_of_mem hi h]
  exact Ev.now _
 ·simp only [decide_eq_false h, Bool.false_eq_true, if_false]
  have := with_l0 s x hs h s.length 0 (by omega)
  simpa using this

theorem rnb_l1 (N : Int) (l : List S38) (hl : l.length < 100000000000) (x3 : List (List Int)) (v : Nat) (r : List (List Int)) (hx : x3.length < 1000000000000) (hv : v < 10000000) (hcont : Ev (fun k => mapmakerref37_Neighbours.l0 k (x3 ++ [nbS l (v : Int)]) ((v + 1 : Nat) : Int) N l) r) :
  ∀ d j : Nat, j + d = l.length → Ev (fun k => mapmakerref37_Neighbours.l1 k x3 (v : Int) (setOf (rawNb l (v : Int) j)) (j : Int) N l) r
 | 0, j, h => by
  have hj : j = l.length := by omega
  subst hj
  refine Ev.step (fun k => ?_) hcont
  simp only [mapmakerref37_Neighbours.l1]
  rw [if_neg (by omega), if_pos (by omega), wrap_succ (by omega)]
  rfl
 | d + 1, j, h => by
  have hj : j < l.length := by omega
  have ih := rnb_l1 N l hl x3 v r hx hv hcont d (j + 1) (by omega)
  have hs1 := length_setOf (rawNb l (v : Int) j)
  have hs2 := rawNb_length l (v : Int) j
  have hraw : rawNb l (v : Int) (j + 1) = rawNb l (v : Int) j ++ ((if l[j].f0 = (v : Int) ∧ ¬ l[j].f1 = (v : Int) then [l[j].f1] else []) ++ (if l[j].f1 = (v : Int) ∧ ¬ l[j].f0 = (v : Int) then [l[j].f0] else [])) := by
   rw [← getD_arc l j hj]; rfl
  rw [hraw, setOf_append] at ih
  have hw : ∀ x : Int, Ev (fun k => mapmakerref05_With.f k (setOf (rawNb l (v : Int) j)) x) (ins x (setOf (rawNb l (v : Int) j))) := fun x => mapmakerref05_With.ev _ _ (by omega) (inc_setOf _)
  by_cases h1 : l[j].f0 = (v : Int)
  ·by_cases h2 : l[j].f1 = (v : Int)
   ·rw [if_neg (fun h => h.2 h2), if_neg (fun h => h.2 h1)] at ih
    have h3 : Ev (fun k => mapmakerref37_Neighbours.j3 k x3 (v : Int) (setOf (rawNb l (v : Int) j)) (j : Int) false N l l[j].f0 l[j].f1) r := by
     refine Ev.step (fun k => ?_) ih
     simp only [mapmakerref37_Neighbours.j3]
     rw [if_neg (by simp), if_pos h2, if_pos h1, wrap_succ (by omega)]
     rfl
    refine Ev.step (fun k => ?_) h3
    simp only [mapmakerref37_Neighbours.l1]
    rw [if_pos (by omega), if_pos (by omega), rd_arc l j hj, if_pos h1]
    rw [show (l[j].f1 != (v : Int)) = false from bne_eq_false_iff_eq.2 h2]
   ·rw [if_pos ⟨h1, h2⟩, if_neg (fun h => h2 h.1)] at ih
    have h3 : Ev (fun k => mapmakerref37_Neighbours.j3 k x3 (v : Int) (setOf (rawNb l (v : Int) j)) (j : Int) true N l l[j].f0 l[j].f1) r := by
     refine Ev.step (fun k => ?_) (Ev.bind (hw l[j].f1) (f := fun k t => mapmakerref37_Neighbours.l1 k x3 (v : Int) t (wrap64 ((j : Int) + 1)) N l) (by rw [wrap_succ (show j < 1000000000000000 by omega)]; exact ih))
     simp only [mapmakerref37_Neighbours.j3]
     rw [if_pos trivial]
     simp only [if_neg h2]
    refine Ev.step (fun k => ?_) h3
    simp only [mapmakerref37_Neighbours.l1]
    rw [if_pos (by omega), if_pos (by omega), rd_arc l j hj, if_pos h1]
    rw [show (l[j].f1 != (v : Int)) = true from bne_iff_ne.2 h2]
  ·by_cases h2 : l[j].f1 = (v : Int)
   ·rw [if_neg (fun h => h1 h.1), if_pos ⟨h2, h1⟩] at ih
    have h3 : Ev (fun k => mapmakerref37_Neighbours.j3 k x3 (v : Int) (setOf (rawNb l (v : Int) j)) (j : Int) false N l l[j].f0 l[j].f1) r := by
     refine Ev.step (fun k => ?_) (Ev.bind (hw l[j].f0) (f := fun k t => mapmakerref37_Neighbours.l1 k x3 (v : Int) t (wrap64 ((j : Int) + 1)) N l) (by rw [wrap_succ (show j < 1000000000000000 by omega)]; exact ih))
     simp only [mapmakerref37_Neighbours.j3]
     rw [if_neg (by simp), if_pos h2, if_neg h1]
    refine Ev.step (fun k => ?_) h3
    simp only [mapmakerref37_Neighbours.l1]
    rw [if_pos (by omega), if_pos (by omega), rd_arc l j hj, if_neg h1]
   ·rw [if_neg (fun h => h1 h.1), if_neg (fun h => h2 h.1)] at ih
    have h3 : Ev (fun k => mapmakerref37_Neighbours.j3 k x3 (v : Int) (setOf (rawNb l (v : Int) j)) (j : Int) false N l l[j].f0 l[j].f1) r := by
     refine Ev.step (fun k => ?_) ih
     simp only [mapmakerref37_Neighbours.j3]
     rw [if_neg (by simp), if_neg h2, wrap_succ (by omega)]
     rfl
    refine Ev.step (fun k => ?_) h3
    simp only [mapmakerref37_Neighbours.l1]
    rw [if_pos (by omega), if_pos (by omega), rd_arc l j hj, if_neg h1]
theorem nbRows_snoc (n : Nat) (l : List S38) : nbRows n l ++ [nbS l (n : Int)] = nbRows (n + 1) l := by simp [nbRows, List.range_succ]
theorem rnb_l0 (N : Int) (l : List S38) (hl : l.length < 100000000000) (hc : chk N l = 0) : ∀ d v : Nat, v + d = N.toNat → Ev (fun k => mapmakerref37_Neighbours.l0 k (nbRows v l) (v : Int) N l) (nbRows N.toNat l)
 | 0, v, h => by
  obtain ⟨h0, h1, _⟩ := chk_ok hc
  have hv : v = N.toNat := by omega
  subst hv
  have h2 : Ev (fun k => mapmakerref37_Neighbours.j1 k (nbRows N.toNat l) ((N.toNat : Nat) : Int) false N l) (nbRows N.toNat l) := Ev.step1 fun k => by simp only [mapmakerref37_Neighbours.j1]; rfl
  refine Ev.step (fun k => ?_) h2
  simp only [mapmakerref37_Neighbours.l0]
  rw [if_neg (by omega)]
 | d + 1, v, h => by
  obtain ⟨h0, h1, _⟩ := chk_ok hc
  have ih := rnb_l0 N l hl hc d (v + 1) (by omega)
  rw [← nbRows_snoc] at ih
  have h3 := rnb_l1 N l hl (nbRows v l) v _ (by rw [nbRows_length]; omega) (by omega) ih l.length 0 (by omega)
  have h2 : Ev (fun k => mapmakerref37_Neighbours.j1 k (nbRows v l) (v : Int) true N l) (nbRows N.toNat l) := Ev.step (fun k => by simp only [mapmakerref37_Neighbours.j1]; rw [if_pos trivial]; rfl) h3
  have hck := mapmakerref37_Check.ev N l (by omega)
  rw [hc] at hck
  refine Ev.step (fun k => ?_) (Ev.bind hck (f := fun k t => mapmakerref37_Neighbours.j1 k (nbRows v l) (v : Int) (t == 0) N l) (by rw [show ((0 : Int) == 0) = true from rfl]; exact h2))
  simp only [mapmakerref37_Neighbours.l0]
  rw [if_pos (by omega)]
theorem mapmakerref37_Neighbours.ev (N : Int) (l : List S38) (hl : l.length < 100000000000) : Ev (fun k => mapmakerref37_Neighbours.f k N l) (neighS N l) := by
 unfold mapmakerref37_Neighbours.f neighS
 by_cases h : chk N l = 0
 ·rw [if_pos h]
  exact rnb_l0 N l hl h N.toNat 0 (by omega)
 ·rw [if_neg h]
  have hj : ∀ r : List (List Int), Ev (fun k => mapmakerref37_Neighbours.j1 k r 0 false N l) r := fun r => Ev.step1 fun k => by simp only [mapmakerref37_Neighbours.j1]; rfl
  by_cases h0 : 0 < N
  ·have hck := mapmakerref37_Check.ev N l (by omega)
   have hb : (chk N l == 0) = false := by simpa using h
   refine Ev.step (fun k => ?_) (Ev.bind hck (f := fun k t => mapmakerref37_Neighbours.j1 k [] 0 (t == 0) N l) (by rw [hb]; exact hj []))
   simp only [mapmakerref37_Neighbours.l0]
   rw [if_pos h0]
  ·refine Ev.step (fun k => ?_) (hj [])
   simp only [mapmakerref37_Neighbours.l0]
   rw [if_neg h0]
end Go.Proofs.Ytcfeehaoeaoegaa.Print
namespace Go.Proofs.Ytcfeehaoeaoegaa.Print
open Go.RowKit Go.Proofs.YtcfeehaoeaoegaaW.PrintWords Go.Proofs.YtcfeehaoeaoegaaW.PrintLast Go.Proofs.YtcfeehaoeaoegaaW.PrintMore
set_option linter.unusedVariables false
set_option linter.unusedSimpArgs false

theorem ins_split {x : Int} : ∀ {l : List Int} {j : Nat}, Inc l → ¬ x ∈ l → j ≤ l.length → (∀ i, i < j → l.getD i 0 < x) → (j = l.length ∨ ¬ l.getD j 0 < x) → l.take j ++ x :: l.drop j = ins x l
 | [], j, _, _, hj, _, _ => by
  have : j = 0 := by simpa using hj
  subst this
  rfl
 | y :: t, 0, hi, hx, _, _, hs => by
  have h1 : ¬ y < x := by
   rcases hs with hs | hs
   ·simp at hs
   ·simpa using hs
  have h2 : ¬ y = x := fun e => hx (by rw [e]; simp)
  unfold ins
  rw [if_neg h1, if_neg h2]
  rfl
 | y :: t, j + 1, hi, hx, hj, hb, hs => by
  have h1 : y < x := by simpa using hb 0 (by omega)
  unfold ins
  rw [if_pos h1, ← ins_split (l := t) (j := j) (List.pairwise_cons.1 hi).2 (fun h => hx (by simp [h])) (by simp at hj; omega) (fun i h => by simpa using hb (i + 1) (by omega)) (by
   rcases hs with hs | hs
   ·left
    simp at hs
    omega
   ·right
    simpa using hs)]
  rfl
theorem take_getD_succ {l : List Int} {j : Nat} (h : j < l.length) : l.take (j + 1) = l.take j ++ [l.getD j 0] := by
 rw [List.take_add_one]
 simp [h]
theorem drop_take_succ {l : List Int} {j d : Nat} (h : j + d < l.length) : (l.drop j).take (d + 1) = (l.drop j).take d ++ [l.getD (j + d) 0] := by
 rw [take_getD_succ (by rw [List.length_drop]; omega)]
 simp [List.getD_eq_getElem?_getD, List.getElem?_drop]
set_option maxHeartbeats 3200000 in
set_option maxRecDepth 100000 in
theorem With_read {w : World} {base : Nat} {A : Option Addr} {c : Nat} {l : List Int} (x : Int) (hr : Kd.R (Kd.int .i64) 3 w base (fun _ => True) (.slice A l.length c) l) (hi : Inc l) (hl : l.length ≤ 1000000) (hbase : base ≤ w.heap.size) :
  Calls Try.prog 57 #[.slice A l.length c, .int .i64 x] w fun e w' => ∃ v : Value, e = .returned v ∧ Kd.R (Kd.int .i64) 3 w' base (fun _ => True) v (ins x l) ∧ Below w.heap.size w w' := by
 have hC := (Kd.R_reads' hr).2
 obtain ⟨kh, hkh⟩ := mapmakerref05_Has.ev l x (by omega)
 have HKH := Aside0.mk (hkh kh (Nat.le_refl _))
 have HR := Aside0.mk hr
 have HC := Aside0.mk hC.2
 have HCC := Aside0.mk hC.1
 have HI := Aside0.mk hi
 clear hr hC hkh hi
 go_enter Try.func57, Try.ntmps57
 go_wp2_with (fail)
 refine (mapmakerref05_Has.calls kh A c l x (decide (x ∈ l)) _ HC.out HCC.out HKH.out).mono ?_
 rintro e w1 ⟨rfl, hd1⟩
 have HB1 : Aside0 (Below w.heap.size w w1) := ⟨hd1.below⟩
 clear hd1
 by_cases hx : x ∈ l
 ·have HX := Aside0.mk (ins_of_mem HI.out hx)
  rw [decide_eq_true hx]
  go_wp2
  go_ret
  exact ⟨_, rfl, by rw [HX.out]; exact Kd.R_below HR.out HB1.out, HB1.out⟩
 ·rw [decide_eq_false hx]
  have HX := Aside0.mk hx
  clear hx HKH
  go_wp2_with (fail)
  go_loopw [5, 6] (fun o i wr => ∃ j : Nat, i = .int .i64 j ∧ j ≤ l.length ∧ Aside0 (Below w.heap.size w wr) ∧ Aside0 (Kd.R (Kd.int .i64) 3 wr w.heap.size (fun _ => True) o (l.take j)) ∧ Aside0 (∀ i, i < j → l.getD i 0 < x)) (fun _ i _ => l.length - (intOf i).toNat)
  case atStart => exact ⟨0, rfl, Nat.zero_le _, HB1, ⟨by rw [List.take_zero]; exact Kd.R_nil _ _ _ _ _⟩, ⟨fun i hi => absurd hi (Nat.not_lt_zero _)⟩⟩
  case round =>
   clear HB1
   obtain ⟨j, rfl, hj, HB, HO, HLT⟩ := hrel
   obtain ⟨A5, c5, rfl⟩ := Kd.R_slice HO.out
   by_cases hlt : j < l.length
   ·rcases cells_of_C (Kd.C_below HC.out HB.out) with ⟨h0, _⟩ | ⟨_, br, orr, rfl, hce⟩
    ·omega
    have hcx := hce j hlt
    have HTS := Aside0.mk (take_getD_succ hlt)
    have HGX : ∃ v, Aside0 (l.getD j 0 = v) := ⟨_, ⟨rfl⟩⟩
    obtain ⟨v, HGX⟩ := HGX
    rw [HGX.out] at hcx HTS
    clear hce
    by_cases hvx : v < x
    ·have hol : (l.take j).length ≤ 1000000 := by rw [List.length_take]; omega
     have HLT2 : Aside0 (∀ i, i < j + 1 → l.getD i 0 < x) := ⟨fun i hi => by
      by_cases e : i = j
      ·rw [e, HGX.out]; exact hvx
      ·exact HLT.out i (by omega)⟩
     generalize l.take j = O at HTS HO hol ⊢
     go_wp2_with (
      refine Kd.R_append (Kd.int .i64) (w0 := w) w.heap.size (by rfl) (.tmp 23) (.tmp 28) 25 3 (.int .i64 0) 8 rfl Try.underlying25 info3 rfl (by decide) (by omega) (.slice A5 O.length c5) O v [.int .i64 v] (fun _ => True) (fun _ => False) rfl rfl ?aP (fun _ hk => hk.elim) ?aF ?aO ?aB ?aS ?aL ?_
      (case aP => exact rfl)
      (case aF => exact (fun _ _ => trivial))
      (case aO => exact Kd.R_mono HO.out (fun _ _ => trivial))
      (case aB => exact HB.out)
      (case aS => exact HB.out.size)
      (case aL => omega)
      intro v9 w9 ho hb hg hat
      have HO9 := Aside0.mk ho
      have HB9 := Aside0.mk hb
      clear ho hb hg hat)
     go_roundw
     case rel => exact ⟨j + 1, by go_num, by omega, HB9, by rw [HTS.out]; exact HO9, HLT2⟩
     case measure => simp [intOf]; omega
    ·have HSP : Aside0 (∀ d, d = 0 → l.take j ++ x :: l.drop j = ins x l) := ⟨fun _ _ => ins_split HI.out HX.out hj HLT.out (.inr (by rw [HGX.out]; exact hvx))⟩
     clear HTS HGX HLT
     have hol : (l.take j).length ≤ 1000000 := by rw [List.length_take]; omega
     obtain ⟨O, HOE⟩ : ∃ O, Aside0 (l.take j = O) := ⟨_, ⟨rfl⟩⟩
     rw [HOE.out] at HO hol HSP
     have htl : (l.take j).length = O.length := by rw [HOE.out]
     rw [htl]
     go_wp2_with (
      refine Kd.R_append (Kd.int .i64) (w0 := w) w.heap.size (by rfl) (.tmp 32) (.tmp 34) 25 3 (.int .i64 0) 8 rfl Try.underlying25 info3 rfl (by decide) (by omega) (.slice A5 O.length c5) O x [.int .i64 x] (fun _ => True) (fun _ => False) rfl rfl ?aP (fun _ hk => hk.elim) ?aF ?aO ?aB ?aS ?aL ?_
      (case aP => exact rfl)
      (case aF => exact (fun _ _ => trivial))
      (case aO => exact Kd.R_mono HO.out (fun _ _ => trivial))
      (case aB => exact HB.out)
      (case aS => exact HB.out.size)
      (case aL => omega)
      intro v9 w9 ho hb hg hat
      have HO9 := Aside0.mk ho
      have HB9 := Aside0.mk hb
      clear ho hb hg hat)
     clear HB HO hcx
     obtain ⟨wo, hwo⟩ : ∃ q, q = wr := ⟨_, rfl⟩
     go_loopw [5, 6] (fun o i wq => ∃ d : Nat, i = .int .i64 ((j + d : Nat) : Int) ∧ j + d ≤ l.length ∧ Aside0 (Below w.heap.size w wq) ∧ Aside0 (Kd.R (Kd.int .i64) 3 wq w.heap.size (fun _ => True) o (O ++ x :: (l.drop j).take d))) (fun _ i _ => l.length - (intOf i).toNat)
     case atStart => exact ⟨0, by first | rfl | (rw [Nat.add_zero, hje]), hj, HB9, HO9⟩
     case round =>
      clear HB9 HO9
      obtain ⟨d, rfl, hjd, HB, HO⟩ := hrel
      obtain ⟨A5, c5, rfl⟩ := Kd.R_slice HO.out
      by_cases hlt2 : j + d < l.length
      ·rcases cells_of_C (Kd.C_below HC.out HB.out) with ⟨h0, _⟩ | ⟨_, bq, oq, hAe, hce⟩
       ·omega
       first | subst hAe | (injection hAe with e1; injection e1 with e1 e2 _; subst e1 e2)
       have hcx := hce (j + d) hlt2
       have HTS := Aside0.mk (drop_take_succ hlt2)
       have HGX : ∃ v, Aside0 (l.getD (j + d) 0 = v) := ⟨_, ⟨rfl⟩⟩
       obtain ⟨v, HGX⟩ := HGX
       rw [HGX.out] at hcx HTS
       clear hce
       have HOP : Aside0 (O ++ x :: (l.drop j).take (d + 1) = (O ++ x :: (l.drop j).take d) ++ [v]) := ⟨by rw [HTS.out]; simp⟩
       have hol2 : (O ++ x :: (l.drop j).take d).length ≤ 2000001 := by
        rw [List.length_append, List.length_cons, List.length_take]
        omega
       generalize O ++ x :: (l.drop j).take d = O2 at HO HOP hol2 ⊢
       generalize hjdq : j + d = q at hcx hlt2 hjd ⊢
       go_wp2_with (
        refine Kd.R_append (Kd.int .i64) (w0 := w) w.heap.size (by rfl) (.tmp 40) (.tmp 45) 25 3 (.int .i64 0) 8 rfl Try.underlying25 info3 rfl (by decide) (by omega) (.slice A5 O2.length c5) O2 v [.int .i64 v] (fun _ => True) (fun _ => False) rfl rfl ?aP (fun _ hk => hk.elim) ?aF ?aO ?aB ?aS ?aL ?_
        (case aP => exact rfl)
        (case aF => exact (fun _ _ => trivial))
        (case aO => exact Kd.R_mono HO.out (fun _ _ => trivial))
        (case aB => exact HB.out)
        (case aS => exact HB.out.size)
        (case aL => omega)
        intro v9 w9 ho hb hg hat
        have HO9 := Aside0.mk ho
        have HB9 := Aside0.mk hb
        clear ho hb hg hat)
       go_roundw
       case rel => exact ⟨d + 1, by go_num, by omega, HB9, by rw [HOP.out]; exact HO9⟩
       case measure => simp [intOf]; omega
      ·have hte : (l.drop j).take d = l.drop j := List.take_of_length_le (by rw [List.length_drop]; omega)
       have HFIN := Aside0.mk (HSP.out 0 rfl)
       rw [hte] at HO ⊢
       generalize O ++ x :: l.drop j = O2 at HO HFIN ⊢
       generalize hjdq : j + d = q at hlt2 hjd ⊢
       go_wp2
       go_ret
       exact ⟨_, rfl, by rw [← HFIN.out]; exact Kd.R_lower HO.out hbase, HB.out⟩
   ·have hje : j = l.length := by omega
    have HSP : Aside0 (∀ d, d = 0 → l.take j ++ x :: l.drop j = ins x l) := ⟨fun _ _ => ins_split HI.out HX.out hj HLT.out (.inl hje)⟩
    clear HLT
    obtain ⟨hcx, v, hvx⟩ : ∃ (_ : True), ∃ v : Int, True := ⟨trivial, 0, trivial⟩
    have hol : (l.take j).length ≤ 1000000 := by rw [List.length_take]; omega
    obtain ⟨O, HOE⟩ : ∃ O, Aside0 (l.take j = O) := ⟨_, ⟨rfl⟩⟩
    rw [HOE.out] at HO hol HSP
    have htl : (l.take j).length = O.length := by rw [HOE.out]
    rw [htl]
    go_wp2_with (
     refine Kd.R_append (Kd.int .i64) (w0 := w) w.heap.size (by rfl) (.tmp 32) (.tmp 34) 25 3 (.int .i64 0) 8 rfl Try.underlying25 info3 rfl (by decide) (by omega) (.slice A5 O.length c5) O x [.int .i64 x] (fun _ => True) (fun _ => False) rfl rfl ?aP (fun _ hk => hk.elim) ?aF ?aO ?aB ?aS ?aL ?_
     (case aP => exact rfl)
     (case aF => exact (fun _ _ => trivial))
     (case aO => exact Kd.R_mono HO.out (fun _ _ => trivial))
     (case aB => exact HB.out)
     (case aS => exact HB.out.size)
     (case aL => omega)
     intro v9 w9 ho hb hg hat
     have HO9 := Aside0.mk ho
     have HB9 := Aside0.mk hb
     clear ho hb hg hat)
    clear HB HO hcx
    obtain ⟨wo, hwo⟩ : ∃ q, q = wr := ⟨_, rfl⟩
    go_loopw [5, 6] (fun o i wq => ∃ d : Nat, i = .int .i64 ((j + d : Nat) : Int) ∧ j + d ≤ l.length ∧ Aside0 (Below w.heap.size w wq) ∧ Aside0 (Kd.R (Kd.int .i64) 3 wq w.heap.size (fun _ => True) o (O ++ x :: (l.drop j).take d))) (fun _ i _ => l.length - (intOf i).toNat)
    case atStart => exact ⟨0, by first | rfl | (rw [Nat.add_zero, hje]), hj, HB9, HO9⟩
    case round =>
     clear HB9 HO9
     obtain ⟨d, rfl, hjd, HB, HO⟩ := hrel
     obtain ⟨A5, c5, rfl⟩ := Kd.R_slice HO.out
     by_cases hlt2 : j + d < l.length
     ·omega
     ·have hte : (l.drop j).take d = l.drop j := List.take_of_length_le (by rw [List.length_drop]; omega)
      have HFIN := Aside0.mk (HSP.out 0 rfl)
      rw [hte] at HO ⊢
      generalize O ++ x :: l.drop j = O2 at HO HFIN ⊢
      generalize hjdq : j + d = q at hlt2 hjd ⊢
      go_wp2
      go_ret
      exact ⟨_, rfl, by rw [← HFIN.out]; exact Kd.R_lower HO.out hbase, HB.out⟩
end Go.Proofs.Ytcfeehaoeaoegaa.Print
