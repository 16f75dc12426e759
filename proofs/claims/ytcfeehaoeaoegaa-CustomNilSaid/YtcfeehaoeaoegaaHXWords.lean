/- The builtin copy into a row of the call's own, of elements of any flat kind, as a step of a walk. -/
import Derived.Test.YtcfeehaoeaoegaaV0
namespace Go.Proofs.Ytcfeehaoeaoegaa.Print
open Go.RowKit Go.Proofs.YtcfeehaoeaoegaaW.PrintWords Go.Proofs.YtcfeehaoeaoegaaW.PrintLast Go.Proofs.YtcfeehaoeaoegaaW.PrintMore
set_option linter.unusedVariables false
set_option linter.unusedSimpArgs false

/-- What copy leaves in a list. -/
def copyL {α : Type} (xs ys : List α) : List α := ys.take xs.length ++ xs.drop ys.length
theorem copyL_length {α : Type} (xs ys : List α) : (copyL xs ys).length = xs.length := by unfold copyL; simp; omega
/-- How many elements copy tells. -/
def copyN {α : Type} (xs ys : List α) : Int := ((Nat.min ys.length xs.length : Nat) : Int)

theorem setRow_grown (W : World) (g : Nat) (cs : Array Value) : W.grownBy (W.setRow g cs) (some g) :=
  ⟨rfl, rfl, rfl, by simp [World.setRow], fun k hk hne => by
    have : g ≠ k := fun e => hne (by rw [e])
    simp [World.setRow, Array.getElem?_modify, this]⟩
theorem reps_drop_take {α : Type} {R : α → List Value → Prop} {sz : Nat} {ps : List α} {cs : List Value} (h : Reps R sz ps cs) (k : Nat) (hk : k ≤ ps.length) : Reps R sz (ps.take k) (cs.take (k * sz)) ∧ Reps R sz (ps.drop k) (cs.drop (k * sz)) := by
  have hle : k * sz ≤ cs.length := by rw [h.1]; exact Nat.mul_le_mul_right _ hk
  refine ⟨⟨by rw [List.length_take, List.length_take]; rw [Nat.min_eq_left hle, Nat.min_eq_left hk], fun j p hj => ?_⟩, ⟨by rw [List.length_drop, List.length_drop, h.1, Nat.sub_mul], fun j p hj => ?_⟩⟩
  · rw [List.getElem?_take] at hj
    split at hj
    · rename_i hjk
      have h2 := h.2 j p hj
      have h3 : j * sz + sz ≤ k * sz := by rw [← Nat.succ_mul]; exact Nat.mul_le_mul_right _ hjk
      rw [List.drop_take, List.take_take, Nat.min_eq_left (by omega)]
      exact h2
    · cases hj
  · rw [List.getElem?_drop] at hj
    have h2 := h.2 (k + j) p hj
    rw [List.drop_drop, ← Nat.add_mul]
    exact h2
theorem reps_append {α : Type} {R : α → List Value → Prop} {sz : Nat} {ps qs : List α} {cs ds : List Value} (h : Reps R sz ps cs) (h' : Reps R sz qs ds) : Reps R sz (ps ++ qs) (cs ++ ds) := by
  refine ⟨by rw [List.length_append, List.length_append, h.1, h'.1, Nat.add_mul], fun j p hj => ?_⟩
  rcases Nat.lt_or_ge j ps.length with hlt | hge
  · rw [List.getElem?_append_left hlt] at hj
    have h1 : j * sz + sz ≤ cs.length := by rw [h.1, ← Nat.succ_mul]; exact Nat.mul_le_mul_right _ hlt
    rw [List.drop_append_of_le_length (by omega), List.take_append_of_le_length (by rw [List.length_drop]; omega)]
    exact h.2 j p hj
  · rw [List.getElem?_append_right hge] at hj
    have h1 : cs.length ≤ j * sz := by rw [h.1]; exact Nat.mul_le_mul_right _ hge
    rw [List.drop_append, List.drop_of_length_le h1, List.nil_append]
    have := h'.2 _ p hj
    rw [h.1, ← Nat.sub_mul]
    exact this
section
variable {α : Type} {P : Program} {ops : Array Oper} {rest : List Oper} {o : Oper} {a : Act} {Q : Exit → Act → World → Prop}
theorem Kd.R_copy (d : Kd α) (hflat : ∀ {w b ok w' b' ok' x cs}, d.M w b ok x cs → d.M w' b' ok' x cs) (hKM : ∀ {w x cs w' b' ok'}, d.K w x cs → d.M w' b' ok' x cs) {W : World} (base : Nat) (hgd : o.guard = none) (s x : Operand) (t t' e : TypeId) (z : Value) (bytes : Nat)
    (ho : o.op = .call { callee := .builtin .copy, args := #[s, x], argTypes := #[t, t'] })
    (ht : P.underlying t = some (.slice e)) (hinfo : (P.info? e).map (fun i => (i.zero, i.size, i.bytes)) = some (some z, d.sz, bytes)) (hs0 : 0 < d.sz)
    (v : Value) (xs ys : List α) (A : Option Addr) (m c : Nat) (ok : Nat → Prop) (hs : a.eval s = v) (hx : a.eval x = .slice A m c)
    (HO : d.R e W base ok v xs) (HR : d.C W A m ys) {w0 : World} (HB : Below base w0 W) (hbase : base ≤ W.heap.size)
    (h : ∀ w1, d.R e w1 base ok v (copyL xs ys) → Below base w0 w1 → W.grownBy w1 v.ownBlock → wpList P ops Q rest (a.put o.dst (.int .i64 (copyN xs ys))) w1) :
    wpList P ops Q (o :: rest) a W := by
  obtain ⟨i0, hi, hzz⟩ := Option.map_eq_some_iff.1 hinfo
  simp only [Prod.mk.injEq] at hzz
  obtain ⟨hz0, hz1, hz2⟩ := hzz
  have hm : ys.length = m := HR.1
  obtain ⟨hok, inner, hown, hr⟩ := HO
  have hrun : ∃ w1, (Builtin.copy_ #[t, t'] o.type #[v, .slice A m c]).run P W = .ok (.int .i64 (copyN xs ys)) w1 ∧ d.R e w1 base ok v (copyL xs ys) ∧ W.grownBy w1 v.ownBlock := by
    have hv : ∃ B c', v = .slice B xs.length c' := by
      rcases hown.2 with ⟨rfl, h0⟩ | ⟨g, cap, cur, rfl, _⟩
      · rw [h0]; exact ⟨_, _, rfl⟩
      · exact ⟨_, _, rfl⟩
    obtain ⟨B, c', hv⟩ := hv
    rcases Nat.eq_zero_or_pos (Nat.min m xs.length) with h0 | h0
    · have hcp : copyL xs ys = xs := by
        unfold copyL
        rcases Nat.eq_zero_or_pos m with hm0 | hm0
        · obtain rfl : ys = [] := List.eq_nil_of_length_eq_zero (by omega)
          simp
        · have : xs.length = 0 := by simp only [Nat.min_def] at h0; split at h0 <;> omega
          obtain rfl : xs = [] := List.eq_nil_of_length_eq_zero this
          simp
      have hN : copyN xs ys = 0 := by unfold copyN; rw [hm, h0]; rfl
      refine ⟨W, ?_, by rw [hcp]; exact ⟨hok, inner, hown, hr⟩, World.grownBy.refl W _⟩
      rw [hN, hv]
      have hl : ∀ y : Addr, (loadCells y 0).run P W = .ok #[] W := fun y => by simpa using run_loadCells_list (P := P) W y [] (by simp)
      have h0' : min m xs.length = 0 := h0
      cases B <;> cases A <;> simp [Builtin.copy_, run_underlying ht, Builtin.lenOf, Builtin.firstCells, sizeOf, typeInfo, hi, hz1, h0', storeCells, hl, goInt]
    · have hmpos : 0 < m := Nat.lt_of_lt_of_le h0 (Nat.min_le_left _ _)
      have hxpos : 0 < xs.length := Nat.lt_of_lt_of_le h0 (Nat.min_le_right _ _)
      obtain ⟨ad, rfl, hcells⟩ : ∃ ad, A = some ad ∧ ∃ news, Reps (d.K W) d.sz ys news ∧ ∀ j u, news[j]? = some u → W.cell? (ad.add j) = some u := by
        obtain ⟨ad, rfl, _⟩ := HR.2.2 hmpos
        exact ⟨ad, rfl, ReadsRow.inner_ HR⟩
      obtain ⟨news, hnr, hnc⟩ := hcells
      rcases hown.2 with ⟨_, hn0⟩ | ⟨g, cap, cur, rfl, hbg, hheap, hcap, hcm, hcs, htk⟩
      · omega
      · have hnewlen : news.length = m * d.sz := by rw [hnr.1, hm]
        have hkm : Nat.min m xs.length ≤ m := Nat.min_le_left _ _
        have hkx : Nat.min m xs.length ≤ xs.length := Nat.min_le_right _ _
        have hcslen : (news.take (Nat.min m xs.length * d.sz)).length = Nat.min m xs.length * d.sz := by
          rw [List.length_take, Nat.min_eq_left]; rw [hnewlen]; exact Nat.mul_le_mul_right _ hkm
        have hone : ∀ u ∈ news, u.oneCell' = true := by
          intro u hu
          obtain ⟨q, hq, rfl⟩ := List.mem_iff_getElem.1 hu
          have hql : q / d.sz < ys.length := by
            rw [Nat.div_lt_iff_lt_mul hs0, ← hnr.1]
            exact hq
          have hc := hnr.2 (q / d.sz) _ (List.getElem?_eq_getElem hql)
          refine d.K_one hc _ ?_
          rw [List.mem_iff_getElem?]
          refine ⟨q % d.sz, ?_⟩
          rw [List.getElem?_take, if_pos (Nat.mod_lt _ hs0), List.getElem?_drop, Nat.mul_comm, Nat.div_add_mod, List.getElem?_eq_getElem hq]
        have hld := run_loadCells_list (P := P) W ad (news.take (Nat.min m xs.length * d.sz)) (fun j u hu => by
          rw [List.getElem?_take] at hu
          split at hu
          · exact hnc j u hu
          · cases hu)
        rw [hcslen] at hld
        have hfit : Nat.min m xs.length * d.sz ≤ cur.size := by
          rw [hcs]; exact Nat.mul_le_mul_right _ (Nat.le_trans hkx hcap)
        have hst := run_storeCells_at P g 0 e (news.take (Nat.min m xs.length * d.sz)) 0 cur W hheap (by rw [hcslen]; omega) (fun u hu => hone u (List.mem_of_mem_take hu))
        rw [hcslen, Nat.zero_add, Nat.zero_add, List.take_zero, List.nil_append] at hst
        have hgt := setRow_heap W g cur (news.take (Nat.min m xs.length * d.sz) ++ cur.toList.drop (Nat.min m xs.length * d.sz)).toArray e (0, 0) hheap
        refine ⟨_, ?_, ?_, setRow_grown W g (news.take (Nat.min m xs.length * d.sz) ++ cur.toList.drop (Nat.min m xs.length * d.sz)).toArray⟩
        · have hmin : ∀ p q : Nat, p.min q = min p q := fun _ _ => rfl
          simp only [hmin] at hld hst ⊢
          simp [Builtin.copy_, run_underlying ht, Builtin.lenOf, Builtin.firstCells, sizeOf, typeInfo, hi, hz1, hld, hst, goInt, copyN, hmin, hm]
        · have hcl : copyL xs ys = ys.take (Nat.min m xs.length) ++ xs.drop (Nat.min m xs.length) := by
            have hmin : ∀ p q : Nat, p.min q = min p q := fun _ _ => rfl
            unfold copyL
            rw [hmin]
            rcases Nat.le_total m xs.length with hle | hle
            · rw [Nat.min_eq_left hle, hm, List.take_of_length_le (by omega), List.take_of_length_le (by omega)]
            · rw [Nat.min_eq_right hle, List.drop_of_length_le (by omega), List.drop_of_length_le (by omega)]
          have h1 := (reps_drop_take hnr _ (by rw [hm]; exact hkm)).1
          have h2 := (reps_drop_take hr _ hkx).2
          rw [hcl]
          refine ⟨hok, news.take (Nat.min m xs.length * d.sz) ++ inner.drop (Nat.min m xs.length * d.sz), ?_, reps_append (h1.imp_ (fun p c hp => hKM hp)) (h2.imp_ (fun p c hp => hflat hp))⟩
          have hlen : (ys.take (Nat.min m xs.length) ++ xs.drop (Nat.min m xs.length)).length = xs.length := by
            rw [← hcl]; exact copyL_length xs ys
          rw [hlen]
          have hin : inner.length = xs.length * d.sz := hown.1
          have hle2 : Nat.min m xs.length * d.sz ≤ xs.length * d.sz := Nat.mul_le_mul_right _ hkx
          refine ⟨by rw [List.length_append, hcslen, List.length_drop, hin]; omega, .inr ⟨g, cap, _, rfl, hbg, hgt, hcap, hcm, ?_, ?_⟩⟩
          · simp only [List.size_toArray, List.length_append, hcslen, List.length_drop, Array.length_toList]
            omega
          · rw [List.take_append, hcslen, List.take_of_length_le (by rw [hcslen]; exact hle2), ← htk, List.drop_take]
  obtain ⟨w1, hrun, h2, h3⟩ := hrun
  refine wpList_plain hgd fun K hK => ?_
  unfold Oper.wp execOp
  simp only [ho, resolve, invoke, builtin, Sem.run_bind, Sem.run_pure, Result.andThen_ok, List.map_toArray, List.map_cons, List.map_nil, hs, hx, hrun]
  exact hK _ _ (h w1 h2 (HB.grown h3 hbase (own_base hown)) h3)
end
end Go.Proofs.Ytcfeehaoeaoegaa.Print
