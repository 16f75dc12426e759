/- The call of order.of: the undirected graph as a slice of maps. -/
import Derived.Test.YtnnknbghfbjcnaaHOModel
import Derived.Test.YtnnknbghfbjcnaaHXShort
import Derived.Test.YtnnknbghfbjcnaaF17
import Derived.Test.YtnnknbghfbjcnaaHP37c
namespace Go.Proofs.Ytnnknbghfbjcnaa.Print
open Go.RowKit Go.Proofs.YtnnknbghfbjcnaaW.PrintWords Go.Proofs.YtnnknbghfbjcnaaW.PrintLast Go.Proofs.YtnnknbghfbjcnaaW.PrintMore
set_option linter.unusedVariables false
set_option linter.unusedSimpArgs false

def keysOf (l : List Int) : List Int := l.foldl kput []
def nbsOf (r : List (List Int)) : Nbs := r.map fun l => some (keysOf l)
theorem oiKey : KeyKind Try.prog 3 (Value.int .i64) := intKey Try.underlying3
theorem infoMap : (Try.prog.info? 50).map (fun i => (i.zero, i.size, i.bytes)) = some (some (.map none), 1, 8) := by kernel_rfl
abbrev encM (b : Nat) : Value := .map (some b)
theorem keys_take {l : List Int} {j : Nat} (hj : j < l.length) : kput (keysOf (l.take j)) (l.getD j 0) = keysOf (l.take (j + 1)) := by
  unfold keysOf
  rw [List.take_succ_eq_append_getElem hj, List.foldl_append]
  simp [List.getElem?_eq_getElem hj]

theorem nbIs_of_own {w : World} {base base' g cap : Nat} {bl : List Nat} {r : List (List Int)} (h : w.ownsRow base 50 1 (.slice (some ⟨g, 0, none⟩) r.length cap) r.length (encs encM bl)) (hn : bl.length = r.length) (hnd : bl.Nodup) (hb : ∀ b ∈ bl, base ≤ b)
    (hm : ∀ j, j < r.length → MapIs (Value.int .i64) Value.bool w (bl.getD j 0) (kmap (keysOf (r.getD j [])))) (hbase : base' ≤ base) : NbIs w base' g (fun i => bl.getD i 0) (nbsOf r) := by
  have hlen : (nbsOf r).length = r.length := by simp [nbsOf]
  have hget : ∀ i, i < r.length → (nbsOf r)[i]? = some (some (keysOf (r.getD i []))) := fun i hi => by
    unfold nbsOf
    rw [List.getElem?_map, List.getElem?_eq_getElem hi]
    simp [List.getElem?_eq_getElem hi]
  have hbl : ∀ i, i < r.length → bl[i]? = some (bl.getD i 0) := fun i hi => by simp [List.getElem?_eq_getElem (show i < bl.length by omega)]
  obtain ⟨cells, hty⟩ := own_typed h g rfl
  refine ⟨fun i hi => ?_, fun i ks hk => ?_, fun i j hi hj e => ?_, Nat.le_trans hbase (own_base h g rfl), fun i hi => ?_, fun i hi => ?_, own_lt h g rfl, fun i hi => ?_, fun i => ?_⟩
  · rw [hlen] at hi
    have h1 := (own_at_of (d := 0) h (i : Int) (by omega) (by omega)).1
    rw [Int.toNat_natCast] at h1
    rw [h1, List.getD_eq_getElem?_getD (l := nbsOf r), hget i hi]
    simp [rdOf, encM]
  · have hi := (List.getElem?_eq_some_iff.1 hk).1
    rw [hlen] at hi
    rw [hget i hi] at hk
    injection hk with hk
    injection hk with hk
    rw [← hk]
    exact hm i hi
  · rw [hlen] at hi hj
    have h1 : bl[i]? = bl[j]? := by rw [hbl i hi, hbl j hj]; exact congrArg some e
    exact (List.getElem?_inj (by omega) hnd).1 h1
  · rw [hlen] at hi
    exact Nat.le_trans hbase (hb _ (List.mem_of_getElem? (hbl i hi)))
  · rw [hlen] at hi
    exact (hm i hi).ne_cells hty
  · rw [hlen] at hi
    exact (hm i hi).lt
  · simp [World.frozen?, hty]

set_option maxHeartbeats 1600000 in
set_option maxRecDepth 100000 in
theorem order_of.calls (k0 : Nat) (a0 : Int) (A : Option Addr) (c : Nat) (l : List S40) (r : List (List Int)) (w : World) (hr : Kd.C k40 w A l.length l) (hc : l.length ≤ c) (h : graph_Neighbours.f k0 a0 l = some r) (hbig : r.length ≤ 1048576) :
    Calls Try.prog 45 #[.agg #[.int .i64 a0, .slice A l.length c]] w fun e w' => Below w.heap.size w w' ∧ ((r = [] ∧ e = .returned (.slice none 0 0)) ∨
      ∃ B cap bs, e = .returned (.slice (some ⟨B, 0, none⟩) r.length cap) ∧ r.length ≤ cap ∧ NbIs w' w.heap.size B bs (nbsOf r)) := by
  have HC0 := Aside0.mk hr
  have HH := Aside0.mk h
  clear hr h
  have hmm := @run_makeMap Try.prog
  go_enter Try.func45, Try.ntmps45
  go_wp2_with (
    refine goesL_ (some 10) rfl rfl Try.func17 (by kernel_rfl) rfl #[.agg #[.int .i64 a0, .slice A l.length c]] rfl byL ?_
    refine (graph_Neighbours.calls k0 a0 A c l r _ (Kd.C_alloc HC0.out _) hc HH.out).mono ?_
    rintro e w1 ⟨v1, rfl, ho, hb⟩
    refine ⟨_, rfl, ?_⟩
    obtain ⟨A1, c1, rfl, hc1, hr1⟩ := Kd.R_reads (Kd.S_R ho)
    have HC1 := Aside0.mk hr1
    have HB1 := Aside0.mk (below_step (below_alloc (Below.refl w.heap.size w) _) hb)
    clear ho hb hr1)
  go_loopw [3, 12] (fun o i wr => ∃ (k : Nat) (bl : List Nat), i = .int .i64 k ∧ k ≤ r.length ∧ Aside0 (bl.length = k ∧ bl.Nodup ∧ ∀ b ∈ bl, w1.heap.size ≤ b ∧ b < wr.heap.size) ∧ Aside0 (wr.ownsRow w1.heap.size 50 1 o k (encs encM bl) ∧ (k = 0 → o = .slice none 0 0)) ∧
    Aside0 (∀ j, j < k → MapIs (Value.int .i64) Value.bool wr (bl.getD j 0) (kmap (keysOf (r.getD j [])))) ∧ Aside0 (Below w1.heap.size w1 wr)) (fun _ i _ => r.length - (intOf i).toNat)
  case atStart => exact ⟨0, [], rfl, Nat.zero_le _, ⟨rfl, List.nodup_nil, by simp⟩, ⟨own_nil _ _ _ _, fun _ => rfl⟩, ⟨fun j hj => absurd hj (Nat.not_lt_zero j)⟩, ⟨Below.refl _ _⟩⟩
  case round =>
    obtain ⟨k, bl, rfl, hk, HD, HO, HM, HB⟩ := hrel
    obtain ⟨wo, hwo⟩ : ∃ q, q = wr := ⟨_, rfl⟩
    subst hwo
    by_cases hlt : k < r.length
    · obtain ⟨ad, cs, hA, _, ⟨Ai, ci, hcs, hci, hri⟩, hcell⟩ := Kd.C_get HC1.out [] (k : Int) (by omega) (by omega)
      have hcell2 := pw_cell_below HB.out (hcell 0 _ (by rw [hcs]; rfl))
      have HRI := Aside0.mk (Kd.C_below hri HB.out)
      have hz : (Kd.slice 3 (Kd.int .i64)).sz = 1 := rfl
      rw [hz, Nat.mul_one, Nat.add_zero] at hcell2
      simp only [Int.toNat_natCast] at hcell2 HRI hci
      subst hA
      have HX : ∃ x, Aside0 (r.getD k [] = x) := ⟨_, ⟨rfl⟩⟩
      obtain ⟨x, HX⟩ := HX
      rw [HX.out] at hcell2 HRI hci
      have hxl : x.length ≤ 9223372036854775807 := HRI.out.2.1
      clear hri hcs hcell hz
      go_wp2
      go_loopw [19] (fun i wq => ∃ (j : Nat), i = .int .i64 j ∧ j ≤ x.length ∧ Aside0 (MapIs (Value.int .i64) Value.bool wq wo.heap.size (kmap (keysOf (x.take j)))) ∧ Aside0 (Below wo.heap.size wo wq)) (fun i _ => x.length - (intOf i).toNat)
      case atStart => exact ⟨0, rfl, Nat.zero_le _, ⟨MapIs.made wo⟩, ⟨(Below.refl _ _).alloc (Nat.le_refl _) _⟩⟩
      case round =>
        clear hcell2
        obtain ⟨j, rfl, hj, HMj, HBj⟩ := hrel
        by_cases hjx : j < x.length
        · rcases cells_of_C (Kd.C_below HRI.out HBj.out) with ⟨h0, _⟩ | ⟨h0, b, off, rfl, hce⟩
          · omega
          · have hcj := hce j hjx
            have HKT := Aside0.mk (keys_take hjx)
            clear hce
            generalize x.getD j 0 = y at hcj HKT
            go_wp2_with (refine wp_mapUpdate_map oiKey Try.underlying50 rfl _ _ _ rfl rfl HMj.out y true rfl rfl rfl ?_; intro w2 hm1 hg1; have HM1 := Aside0.mk hm1; have HG1 := Aside0.mk hg1; clear hm1 hg1)
            go_roundw
            case rel => exact ⟨j + 1, by go_num, by omega, ⟨by rw [← HKT.out, ← kmap_put]; exact HM1.out⟩, ⟨HBj.out.grown HG1.out HBj.out.size (fun q hq => by injection hq with hq; omega)⟩⟩
            case measure => simp [intOf]; omega
        · have hj2 : j = x.length := by omega
          have HMx : Aside0 (MapIs (Value.int .i64) Value.bool wr wo.heap.size (kmap (keysOf x))) := ⟨by
            have := HMj.out
            rwa [hj2, List.take_length] at this⟩
          have HOq : Aside0 (wr.ownsRow w1.heap.size 50 1 u3 k (encs encM bl)) := ⟨own_move HO.out.1 (fun q hq => HBj.out.block q (own_lt HO.out.1 q hq))⟩
          have HMq : Aside0 (∀ j, j < k → MapIs (Value.int .i64) Value.bool wr (bl.getD j 0) (kmap (keysOf (r.getD j [])))) := ⟨fun j hj => (HM.out j hj).below HBj.out⟩
          have HBq : Aside0 (Below w1.heap.size w1 wr) := ⟨below_step HB.out HBj.out⟩
          clear HMj hj2
          go_wp2_with (
            refine print_append_cells w1.heap.size (by rfl) (.tmp 26) (.tmp 28) 52 50 (.map none) 1 8 rfl Try.underlying52 infoMap rfl (by decide) (by decide) u3 k (encs encM bl) [.map (some wo.heap.size)] rfl rfl rfl (by simp [Value.oneCell']) HOq.out HBq.out HBq.out.size ?_ ?_
            · omega
            intro v4 w4 ho4 hb4 hg4 hat4
            have HO4 := Aside0.mk ho4
            have HB4 := Aside0.mk hb4
            have HG4 := Aside0.mk hg4
            clear ho4 hb4 hg4 hat4)
          go_roundw
          case rel =>
            have hne : ∀ b m, MapIs (Value.int .i64) Value.bool wr b m → some b ≠ u3.ownBlock := fun b m hb e => by
              obtain ⟨cells, hc⟩ := own_typed HOq.out b e.symm
              exact hb.ne_cells hc rfl
            have hbl : ∀ j, j < k → (bl ++ [wo.heap.size]).getD j 0 = bl.getD j 0 := fun j hj => by
              have := HD.out.1
              rw [List.getD_eq_getElem?_getD, List.getElem?_append_left (by omega), ← List.getD_eq_getElem?_getD]
            have hbk : (bl ++ [wo.heap.size]).getD k 0 = wo.heap.size := by
              have := HD.out.1
              rw [List.getD_eq_getElem?_getD, List.getElem?_append_right (by omega)]
              simp [this]
            refine ⟨k + 1, bl ++ [wo.heap.size], by go_num, by omega, ⟨by rw [List.length_append, HD.out.1]; rfl, ?_, ?_⟩, ⟨by rw [encs_append]; exact HO4.out, fun h => by omega⟩, ⟨fun j hj => ?_⟩, HB4⟩
            · rw [List.nodup_append]
              exact ⟨HD.out.2.1, by simp, fun a ha b hb => by
                have h1 := (HD.out.2.2 a ha).2
                simp at hb
                omega⟩
            · intro b hb
              rcases List.mem_append.1 hb with hb | hb
              · have h1 := HD.out.2.2 b hb
                have h2 := HBj.out.size
                have h3 := HG4.out.size
                omega
              · simp at hb
                subst hb
                have h1 := HB.out.size
                have h2 := HMx.out.lt
                have h3 := HG4.out.size
                omega
            · by_cases hjk : j < k
              · rw [hbl j hjk]
                exact (HMq.out j hjk).grown HG4.out (hne _ _ (HMq.out j hjk))
              · have hj3 : j = k := by omega
                rw [hj3, hbk, HX.out]
                exact HMx.out.grown HG4.out (hne _ _ HMx.out)
          case measure => simp [intOf]; omega
    · have hk2 : k = r.length := by omega
      subst hk2
      go_wp2
      go_ret
      refine ⟨below_step HB1.out HB.out, ?_⟩
      by_cases h0 : r.length = 0
      · exact .inl ⟨List.eq_nil_of_length_eq_zero h0, by rw [HO.out.2 h0]; rfl⟩
      · right
        obtain ⟨Ao, co, rfl⟩ := own_slice HO.out.1
        rcases HO.out.1.2 with ⟨_, hz⟩ | ⟨g, cap, cur, hv, _, _, hle, _⟩
        · exact absurd hz h0
        · obtain ⟨rfl, rfl⟩ : Ao = some ⟨g, 0, none⟩ ∧ co = cap := by
            injection hv with h1 _ h2
            exact ⟨h1, h2⟩
          exact ⟨g, co, _, rfl, hle, nbIs_of_own HO.out.1 HD.out.1 HD.out.2.1 (fun b hb => (HD.out.2.2 b hb).1) HM.out HB1.out.size⟩
end Go.Proofs.Ytnnknbghfbjcnaa.Print

namespace Go.Proofs.Ytnnknbghfbjcnaa.Print
open Go.RowKit Go.Proofs.YtnnknbghfbjcnaaW.PrintWords Go.Proofs.YtnnknbghfbjcnaaW.PrintLast Go.Proofs.YtnnknbghfbjcnaaW.PrintMore
set_option linter.unusedVariables false
set_option linter.unusedSimpArgs false

/-- The first place of those below n that are alive at which the degree is least. -/
def bestF (al : Nat → Bool) (dg : Nat → Nat) : Nat → Option Nat
  | 0 => none
  | v + 1 => match bestF al dg v with
    | none => if al v = true then some v else none
    | some b => if al v = true ∧ dg v < dg b then some v else some b
theorem bestF_some {al : Nat → Bool} {dg : Nat → Nat} : ∀ {n b : Nat}, bestF al dg n = some b → b < n ∧ al b = true ∧ ∀ x, x < n → al x = true → dg b ≤ dg x
  | v + 1, b, h => by
    unfold bestF at h
    cases hb : bestF al dg v with
    | none =>
      rw [hb] at h
      simp only at h
      split at h
      · rename_i ha
        obtain rfl := Option.some.inj h
        refine ⟨by omega, ha, fun x hx hax => ?_⟩
        by_cases e : x = v
        · rw [e]
          exact Nat.le_refl _
        · have := bestF_none hb x (by omega)
          rw [this] at hax
          cases hax
      · cases h
    | some b' =>
      rw [hb] at h
      simp only at h
      obtain ⟨h1, h2, h3⟩ := bestF_some hb
      split at h
      · rename_i ha
        obtain rfl := Option.some.inj h
        refine ⟨by omega, ha.1, fun x hx hax => ?_⟩
        by_cases e : x = v
        · rw [e]
          exact Nat.le_refl _
        · have := h3 x (by omega) hax
          omega
      · rename_i ha
        obtain rfl := Option.some.inj h
        refine ⟨by omega, h2, fun x hx hax => ?_⟩
        by_cases e : x = v
        · subst e
          have : ¬ dg x < dg b' := fun h => ha ⟨hax, h⟩
          omega
        · exact h3 x (by omega) hax
where
  bestF_none {al : Nat → Bool} {dg : Nat → Nat} : ∀ {n : Nat}, bestF al dg n = none → ∀ x, x < n → al x = false
    | v + 1, h, x, hx => by
      unfold bestF at h
      cases hb : bestF al dg v with
      | none =>
        rw [hb] at h
        simp only at h
        split at h
        · cases h
        · rename_i ha
          by_cases e : x = v
          · rw [e]
            simpa using ha
          · exact bestF_none hb x (by omega)
      | some b' =>
        rw [hb] at h
        simp only at h
        split at h <;> cases h
theorem bestF_congr {al al' : Nat → Bool} {dg dg' : Nat → Nat} : ∀ n, (∀ x, x < n → al x = al' x) → (∀ x, x < n → al x = true → dg x = dg' x) → bestF al dg n = bestF al' dg' n
  | 0, _, _ => rfl
  | v + 1, h1, h2 => by
    have ih := bestF_congr v (fun x hx => h1 x (by omega)) (fun x hx => h2 x (by omega))
    unfold bestF
    rw [← ih, ← h1 v (by omega)]
    cases hb : bestF al dg v with
    | none => rfl
    | some b =>
      obtain ⟨hb1, hb2, _⟩ := bestF_some hb
      simp only
      by_cases ha : al v = true
      · rw [h2 v (by omega) ha, h2 b (by omega) hb2]
      · simp [ha]
def alOf (G : Nbs) (v : Nat) : Bool := (G.getD v none).isSome
def dgOf (G : Nbs) (v : Nat) : Nat := (kOf G v).length
def bestOf (G : Nbs) (n : Nat) : Option Nat := bestF (alOf G) (dgOf G) n
def minGo : Nat → Nbs → List Int
  | 0, _ => []
  | d + 1, G => match bestOf G G.length with
    | none => []
    | some b => (b : Int) :: minGo d (elim G b).1
def fillGo : List Int → Nbs → Int → Int
  | [], _, f => f
  | v :: r, G, f => fillGo r (elim G v).1 (wrap64 (f + (elim G v).2))
def encB : Option Nat → Int
  | none => -1
  | some b => (b : Int)
theorem alive_al {G : Nbs} {v : Nat} : Alive G v ↔ v < G.length ∧ alOf G v = true := by
  unfold Alive alOf
  rw [Int.toNat_natCast, List.getD_eq_getElem?_getD]
  constructor
  · rintro ⟨_, h1, ks, h2⟩
    rw [h2]
    exact ⟨h1, rfl⟩
  · rintro ⟨h1, h2⟩
    rw [List.getElem?_eq_getElem h1] at h2 ⊢
    simp only [Option.getD_some] at h2
    obtain ⟨ks, hk⟩ := Option.isSome_iff_exists.1 h2
    exact ⟨by omega, h1, ks, by rw [hk]⟩
theorem best_alive {G : Nbs} {n b : Nat} (h : bestOf G n = some b) (hn : n ≤ G.length) : b < n ∧ Alive G b := by
  obtain ⟨h1, h2, _⟩ := bestF_some h
  exact ⟨h1, alive_al.2 ⟨by omega, h2⟩⟩
/-- More places than a list has entries: one of them is not in it. -/
theorem pigeon : ∀ (n : Nat) (O : List Int), O.length < n → ∃ x : Nat, x < n ∧ ¬ (x : Int) ∈ O
  | 0, O, h => by omega
  | n + 1, O, h => by
    by_cases hn : (n : Int) ∈ O
    · obtain ⟨x, hx, hxo⟩ := pigeon n (O.filter fun y => decide (y ≠ (n : Int))) (by
        have h1 : (O.filter fun y => decide (y ≠ (n : Int))).length < O.length := by
          rw [← List.countP_eq_length_filter]
          have h2 := List.length_eq_countP_add_countP (l := O) (fun y => decide (y ≠ (n : Int)))
          have h3 : 0 < O.countP (fun y => decide ¬ (decide (y ≠ (n : Int)) = true)) := List.countP_pos_iff.2 ⟨(n : Int), hn, by simp⟩
          omega
        omega)
      refine ⟨x, by omega, fun hm => hxo (List.mem_filter.2 ⟨hm, ?_⟩)⟩
      simp
      omega
    · exact ⟨n, by omega, hn⟩
/-- The vertices that are not out yet are there. -/
def Outs (G : Nbs) (O : List Int) : Prop := O.Nodup ∧ ∀ x : Int, Alive G x ↔ 0 ≤ x ∧ x.toNat < G.length ∧ ¬ x ∈ O
theorem Outs.best {G : Nbs} {O : List Int} (h : Outs G O) (hl : O.length < G.length) : ∃ b : Nat, bestOf G G.length = some b ∧ Alive G b := by
  obtain ⟨x, hx, hxo⟩ := pigeon G.length O hl
  have ha : Alive G x := (h.2 x).2 ⟨by omega, by simpa using hx, hxo⟩
  cases hb : bestOf G G.length with
  | none =>
    have := bestF_some.bestF_none hb x hx
    rw [(alive_al.1 ha).2] at this
    cases this
  | some b => exact ⟨b, rfl, (best_alive hb (Nat.le_refl _)).2⟩
theorem Outs.elim {G : Nbs} {O : List Int} (h : Outs G O) (hg : Good G) {v : Int} (hv : Alive G v) (hb : G.length ≤ 20000) : Outs (elim G v).1 (O ++ [v]) := by
  obtain ⟨h1, h2, _⟩ := elim_spec hg hv hb
  have hvo : ¬ v ∈ O := ((h.2 v).1 hv).2.2
  refine ⟨?_, fun x => ?_⟩
  · rw [List.nodup_append]
    exact ⟨h.1, by simp, fun a ha b hb2 => by simp at hb2; subst hb2; rintro rfl; exact hvo ha⟩
  · rw [h1 x, h2, h.2 x, List.mem_append, List.mem_singleton]
    constructor
    · rintro ⟨⟨a, b, c⟩, d⟩
      exact ⟨a, b, fun e => e.elim c d⟩
    · rintro ⟨a, b, c⟩
      exact ⟨⟨a, b, fun e => c (.inl e)⟩, fun e => c (.inr e)⟩
theorem kput_end {ks : List Int} {k : Int} (h : ¬ k ∈ ks) : kput ks k = ks ++ [k] := if_neg h
theorem keysOf_nodup {l : List Int} (h : l.Nodup) : keysOf l = l := by
  have : ∀ (l ks : List Int), (ks ++ l).Nodup → l.foldl kput ks = ks ++ l := by
    intro l
    induction l with
    | nil => intro ks _; simp
    | cons x r ih =>
      intro ks hn
      have hx : ¬ x ∈ ks := fun hm => by
        rw [List.nodup_append] at hn
        exact hn.2.2 x hm x (by simp) rfl
      rw [List.foldl_cons, kput_end hx, ih _ (by simpa using hn)]
      simp
  unfold keysOf
  simpa using this l [] (by simpa using h)
theorem nbs_alive {n : Nat} {l : List S40} {x : Int} : Alive (nbsOf (nbRows n l)) x ↔ 0 ≤ x ∧ x.toNat < n := by
  unfold Alive nbsOf
  rw [List.length_map, nbRows_length]
  constructor
  · rintro ⟨h1, h2, _⟩
    exact ⟨h1, h2⟩
  · rintro ⟨h1, h2⟩
    exact ⟨h1, h2, _, by rw [List.getElem?_map, List.getElem?_eq_getElem (by rw [nbRows_length]; exact h2)]; rfl⟩
theorem nbs_keys {n : Nat} {l : List S40} {v : Nat} (hv : v < n) : kOf (nbsOf (nbRows n l)) v = nbS l v := by
  unfold kOf nbsOf
  rw [Int.toNat_natCast, List.getD_eq_getElem?_getD, List.getElem?_map, List.getElem?_eq_getElem (by rw [nbRows_length]; exact hv), nbRows_get]
  simp only [Option.map_some, Option.getD_some]
  exact keysOf_nodup (inc_nodup (inc_setOf _))
theorem nbs_good {N : Int} {l : List S40} (hc : chk N l = 0) : Good (nbsOf (nbRows N.toNat l)) := by
  refine ⟨fun x hx => ?_, fun x hx => ?_, fun x hx y hy => ?_, fun x hx y hy => ?_⟩
  all_goals
    obtain ⟨h1, h2⟩ := nbs_alive.1 hx
    obtain ⟨n, rfl⟩ := Int.eq_ofNat_of_zero_le h1
    rw [Int.toNat_natCast] at h2
  · rw [nbs_keys h2]
    exact inc_nodup (inc_setOf _)
  · rw [nbs_keys h2, mem_nbS]
    exact fun h => h.1 rfl
  · rw [nbs_keys h2] at hy
    obtain ⟨m, rfl, hm⟩ := nbS_nat hc hy
    exact nbs_alive.2 ⟨by omega, by simpa using hm⟩
  · rw [nbs_keys h2] at hy
    obtain ⟨m, rfl, hm⟩ := nbS_nat hc hy
    rw [mem_nbS] at hy
    rw [nbs_keys hm, mem_nbS]
    exact Adj.symm _ _ hy
theorem nbs_length (n : Nat) (l : List S40) : (nbsOf (nbRows n l)).length = n := by simp [nbsOf, nbRows_length]
theorem nbs_outs (n : Nat) (l : List S40) : Outs (nbsOf (nbRows n l)) [] := ⟨List.nodup_nil, fun x => by rw [nbs_alive, nbs_length]; simp⟩
end Go.Proofs.Ytnnknbghfbjcnaa.Print
