/- The call of the reference's MinDegree. -/
import Derived.Test.YtnnknbghfbjcnaaHRTab
import Derived.Test.YtnnknbghfbjcnaaHRStart
import Derived.Test.YtnnknbghfbjcnaaHOOf
namespace Go.Proofs.Ytnnknbghfbjcnaa.Print
open Go.RowKit Go.Proofs.YtnnknbghfbjcnaaW.PrintWords Go.Proofs.YtnnknbghfbjcnaaW.PrintLast Go.Proofs.YtnnknbghfbjcnaaW.PrintMore
set_option linter.unusedVariables false
set_option linter.unusedSimpArgs false

def rbest (n : Nat) (M : Mat) (g : Nat → Bool) (j : Nat) : Option Nat := bestF (fun v => !g v) (fun v => degT M g v n) j
def rminGo (n : Nat) : Nat → Mat → (Nat → Bool) → List Int
  | 0, _, _ => []
  | d + 1, M, g => match rbest n M g n with
    | none => []
    | some b => (b : Int) :: rminGo n d (tElim M g b n).1 (gset g b)
def rminS (N : Int) (l : List S40) : List Int := if chk N l = 0 then rminGo N.toNat N.toNat (stM l l.length) (fun _ => false) else []
def mapmakerref39_MinDegree.f (a0 : Int) (l : List S40) : Option (List Int) := if l.length < 100000000000 ∧ a0 ≤ 20000 then some (rminS a0 l) else none
/-- What is gone is out. -/
def OutsT (n : Nat) (g : Nat → Bool) (O : List Int) : Prop := O.Nodup ∧ ∀ x : Nat, x < n → (g x = true ↔ (x : Int) ∈ O)
theorem rbest_lt {n j b : Nat} {M : Mat} {g : Nat → Bool} (h : rbest n M g j = some b) : b < j ∧ g b = false := by
  obtain ⟨h1, h2, _⟩ := bestF_some h
  exact ⟨h1, by simpa using h2⟩
theorem OutsT.best {n : Nat} {M : Mat} {g : Nat → Bool} {O : List Int} (h : OutsT n g O) (hl : O.length < n) : ∃ b : Nat, rbest n M g n = some b ∧ b < n ∧ g b = false := by
  obtain ⟨x, hx, hxo⟩ := pigeon n O hl
  have ha : g x = false := by
    cases hg : g x with
    | false => rfl
    | true => exact absurd ((h.2 x hx).1 hg) hxo
  cases hb : rbest n M g n with
  | none =>
    have := bestF_some.bestF_none hb x hx
    rw [ha] at this
    cases this
  | some b => exact ⟨b, rfl, rbest_lt hb⟩
theorem OutsT.gset {n : Nat} {g : Nat → Bool} {O : List Int} (h : OutsT n g O) {b : Nat} (hb : b < n) (hg : g b = false) : OutsT n (gset g b) (O ++ [(b : Int)]) := by
  refine ⟨?_, fun x hx => ?_⟩
  · rw [List.nodup_append]
    exact ⟨h.1, by simp, fun a ha c hc => by
      simp at hc
      subst hc
      rintro rfl
      have := (h.2 b hb).2 ha
      rw [hg] at this
      cases this⟩
  · unfold Print.gset
    rw [List.mem_append, List.mem_singleton]
    by_cases e : x = b
    · subst e
      simp
    · have e' : ¬ (x : Int) = (b : Int) := by omega
      rw [if_neg e, h.2 x hx]
      simp [e']
theorem rbest_step {n j : Nat} {M : Mat} {g : Nat → Bool} : rbest n M g (j + 1) = match rbest n M g j with
    | none => if g j = false then some j else none
    | some b => if g j = false ∧ degT M g j n < degT M g b n then some j else some b := by
  show (match bestF (fun v => !g v) (fun v => degT M g v n) j with | none => if (!g j) = true then some j else none | some b => if (!g j) = true ∧ degT M g j n < degT M g b n then some j else some b) = _
  unfold rbest
  cases bestF (fun v => !g v) (fun v => degT M g v n) j <;> simp

set_option maxHeartbeats 3200000 in
set_option maxRecDepth 100000 in
theorem mapmakerref39_MinDegree.calls (a0_0 : Int) (A0_1 : Option Addr) (c0_1 : Nat) (l0_1 : List S40) (r : List Int) (w : World) (hr0_1 : Kd.C k40 w A0_1 l0_1.length l0_1) (hc0_1 : l0_1.length ≤ c0_1) (h : mapmakerref39_MinDegree.f a0_0 l0_1 = some r) :
    Calls Try.prog 38 #[.agg #[.int .i64 a0_0, .slice A0_1 l0_1.length c0_1]] w fun e w' => ∃ v0_ : Value, e = .returned v0_ ∧ Kd.R (Kd.int .i64) 3 w' w.heap.size (fun _ => True) v0_ r ∧ Below w.heap.size w w' := by
  unfold mapmakerref39_MinDegree.f at h
  split at h
  · rename_i hl
    obtain rfl := Option.some.inj h
    have HC0 := Aside0.mk hr0_1
    obtain ⟨kc, hkc⟩ := mapmakerref37_Check.ev a0_0 l0_1 (by omega)
    have HFC := Aside0.mk (hkc kc (Nat.le_refl _))
    clear h hkc hr0_1
    by_cases hc : chk a0_0 l0_1 = 0
    · have HCK := Aside0.mk hc
      obtain ⟨hn0, hn1, _⟩ := chk_ok hc
      have hms : rminS a0_0 l0_1 = rminGo a0_0.toNat a0_0.toNat (stM l0_1 l0_1.length) (fun _ => false) := if_pos hc
      rw [hc] at HFC
      rw [hms]
      obtain ⟨n, rfl⟩ := Int.eq_ofNat_of_zero_le hn0
      rw [Int.toNat_natCast]
      clear hc hms hn0 hn1
      have hn2 : n ≤ 20000 := by omega
      have hl2 : l0_1.length < 100000000000 := hl.1
      go_enter Try.func38, Try.ntmps38
      go_wp2_with (
        refine goesL_ (some 9) rfl rfl Try.func23 (by kernel_rfl) rfl #[.agg #[.int .i64 (n : Int), .slice A0_1 l0_1.length c0_1]] rfl byL ?_
        refine (mapmakerref37_Check.calls kc (n : Int) A0_1 c0_1 l0_1 0 _ (Kd.C_alloc HC0.out _) hc0_1 HFC.out).mono ?_
        rintro e w1 ⟨rfl, hb⟩
        refine ⟨_, rfl, ?_⟩
        have HB1 := Aside0.mk (below_step (below_alloc (Below.refl w.heap.size w) _) hb)
        have HBK := Aside0.mk (blk_below (g := w.heap.size) (o := .cells #[.int .i64 (n : Int), .slice A0_1 l0_1.length c0_1] 24 (0, 0)) (heap_alloc_new w _) hb)
        have HC1 := Aside0.mk (Kd.C_below (Kd.C_alloc HC0.out _) hb)
        have hbk0 := (blk_cell HBK.out 0).trans rfl
        have hbk1 := (blk_cell HBK.out 1).trans rfl
        clear hb)
      refine (Start.calls n A0_1 c0_1 l0_1 _ HC1.out hc0_1 hn2 hl2 HCK.out).mono ?_
      rintro e w2 ⟨hb2, hcase⟩
      have HB2 := Aside0.mk (below_step HB1.out hb2)
      have HBK2 := Aside0.mk (blk_below HBK.out hb2)
      have hbn := (blk_cell HBK2.out 0).trans rfl
      have HW1 := Aside0.mk (sb_lt HBK.out)
      clear hbk0 hbk1 hb2
      rcases hcase with ⟨rfl, vv, rfl⟩ | ⟨R, cap, Gb, rb, rfl, hcap, htb⟩
      · go_wp2
        have hbn2 := (blk_cell (blk_below HBK2.out ((Below.refl _ _).alloc (Nat.le_refl _) (.cells #[.slice none 0 0, .slice (some ⟨vv, 0, none⟩) 0 0] 58 (0, 0)))) 0).trans rfl
        go_loopw [4, 5] (fun o i wr => o = .slice none 0 0 ∧ i = .int .i64 0 ∧ wr.cell? ⟨w.heap.size, 0, none⟩ = some (.int .i64 0) ∧ Aside0 (Below w.heap.size w wr)) (fun _ _ _ => 0)
        case atStart => exact ⟨rfl, rfl, hbn2, ⟨HB2.out.alloc HB2.out.size _⟩⟩
        case round =>
          obtain ⟨rfl, rfl, hcn, HB⟩ := hrel
          go_wp2
          go_ret
          exact ⟨_, rfl, Kd.R_nil _ _ _ _ _, HB.out⟩
      · have HT2 := Aside0.mk htb
        clear htb
        unfold tabV
        have HBA : Aside0 (Below w.heap.size w (w2.alloc (.cells #[.slice (some ⟨R, 0, none⟩) n cap, .slice (some ⟨Gb, 0, none⟩) n n] 58 (0, 0)))) := ⟨HB2.out.alloc HB2.out.size _⟩
        have HTA : Aside0 (TbIs (w2.alloc (.cells #[.slice (some ⟨R, 0, none⟩) n cap, .slice (some ⟨Gb, 0, none⟩) n n] 58 (0, 0))) w1.heap.size R rb Gb n (stM l0_1 l0_1.length) (fun _ => false)) := ⟨HT2.out.below ((Below.refl _ _).alloc (Nat.le_refl _) _)⟩
        have HKA : Aside0 ((w2.alloc (.cells #[.slice (some ⟨R, 0, none⟩) n cap, .slice (some ⟨Gb, 0, none⟩) n n] 58 (0, 0))).heap[w2.heap.size]? = some (.cells #[.slice (some ⟨R, 0, none⟩) n cap, .slice (some ⟨Gb, 0, none⟩) n n] 58 (0, 0))) := ⟨heap_alloc_new w2 _⟩
        have HKB : Aside0 ((w2.alloc (.cells #[.slice (some ⟨R, 0, none⟩) n cap, .slice (some ⟨Gb, 0, none⟩) n n] 58 (0, 0))).heap[w.heap.size]? = some (.cells #[.int .i64 (n : Int), .slice A0_1 l0_1.length c0_1] 24 (0, 0))) := ⟨blk_below HBK2.out ((Below.refl _ _).alloc (Nat.le_refl _) _)⟩
        have HNT : Aside0 (¬ TbT Gb rb n w2.heap.size ∧ ¬ TbT Gb rb n w.heap.size ∧ w.heap.size < w2.heap.size) := ⟨⟨fun h => by
          rcases h with e | ⟨i, hi, e⟩
          · have := HT2.out.top.2
            omega
          · have := HT2.out.tops i hi
            omega, fun h => by
          have := HW1.out
          rcases h with e | ⟨i, hi, e⟩
          · have := HT2.out.lo
            omega
          · have := HT2.out.los i hi
            omega, sb_lt HBK2.out⟩⟩
        go_wp2
        generalize w2.alloc (.cells #[.slice (some ⟨R, 0, none⟩) n cap, .slice (some ⟨Gb, 0, none⟩) n n] 58 (0, 0)) = w3 at HBA HTA HKA HKB ⊢
        have hbase : w.heap.size < w1.heap.size := HW1.out
        generalize w1.heap.size = base at HTA hbase
        generalize w2.heap.size = tb at HKA HNT ⊢
        clear HT2 hbn HB1 HBK HC1 HB2 HBK2
        go_loopw [4, 5] (fun o i wr => ∃ (k : Nat) (O : List Int) (M : Mat) (g : Nat → Bool), i = .int .i64 k ∧ k ≤ n ∧ Aside0 (O ++ rminGo n (n - k) M g = rminGo n n (stM l0_1 l0_1.length) (fun _ => false)) ∧ Aside0 (OutsT n g O ∧ O.length = k) ∧ Aside0 (TbIs wr base R rb Gb n M g) ∧
          Aside0 (Kd.R (Kd.int .i64) 3 wr w.heap.size (fun q => ¬ TbT Gb rb n q ∧ q ≠ tb ∧ q ≠ w.heap.size ∧ q ≠ R) o O) ∧ Aside0 (wr.heap[tb]? = some (.cells #[.slice (some ⟨R, 0, none⟩) n cap, .slice (some ⟨Gb, 0, none⟩) n n] 58 (0, 0))) ∧
          Aside0 (wr.heap[w.heap.size]? = some (.cells #[.int .i64 (n : Int), .slice A0_1 l0_1.length c0_1] 24 (0, 0))) ∧ Aside0 (Below w.heap.size w wr)) (fun _ i _ => n - (intOf i).toNat)
        case atStart => exact ⟨0, [], _, _, rfl, Nat.zero_le _, ⟨rfl⟩, ⟨⟨List.nodup_nil, fun x hx => by simp⟩, rfl⟩, HTA, ⟨Kd.R_nil _ _ _ _ _⟩, HKA, HKB, HBA⟩
        case round =>
          clear HTA HKA HKB HBA
          obtain ⟨k, O, M, g, rfl, hk, HM, HO, HT, HR, HK, HKG, HBW⟩ := hrel
          have hcn := (blk_cell HKG.out 0).trans rfl
          by_cases hlt : k < n
          · obtain ⟨A4, c4, rfl⟩ := Kd.R_slice HR.out
            go_wp2
            clear hcn
            obtain ⟨wo, hwo⟩ : ∃ q, q = wr := ⟨_, rfl⟩
            subst hwo
            go_loopw [6, 7] (fun b i wr => ∃ j : Nat, i = .int .i64 j ∧ j ≤ n ∧ b = .int .i64 (encB (rbest n M g j)) ∧ Aside0 (Below wo.heap.size wo wr)) (fun _ i _ => n - (intOf i).toNat)
            case atStart => exact ⟨0, rfl, Nat.zero_le _, rfl, ⟨Below.refl _ _⟩⟩
            case round =>
              obtain ⟨j, rfl, hj, rfl, HB⟩ := hrel
              have HTr := Aside0.mk (HT.out.below HB.out)
              have hcn := (blk_cell (blk_below HKG.out HB.out) 0).trans rfl
              have hct0 := (blk_cell (blk_below HK.out HB.out) 0).trans rfl
              have hct1 := (blk_cell (blk_below HK.out HB.out) 1).trans rfl
              by_cases hjn : j < n
              · have hcg := HTr.out.gon j hjn
                cases hgj : g j with
                | true =>
                  rw [hgj] at hcg
                  have hb1 : rbest n M g (j + 1) = rbest n M g j := by
                    rw [rbest_step, hgj]
                    cases rbest n M g j <;> simp
                  have HBB := Aside0.mk hb1
                  clear hb1 hgj
                  go_upto_region 12 with (fail)
                  refine start_ (n := 19) (S := fun w' => w'.cell? ⟨tb, 0, none⟩ = some (.slice (some ⟨R, 0, none⟩) n cap) ∧ w'.cell? ⟨tb, 1, none⟩ = some (.slice (some ⟨Gb, 0, none⟩) n n) ∧ w'.cell? ⟨Gb, j, none⟩ = some (.bool true)) (ds := []) #[yF,yF,yF,yF,yF,yF,yF,yF,yF,yF,yF,yF,yF,yF,yF,yF,yF,yF,yF] (by kernel_rfl) rfl rfl ⟨hct0, hct1, hcg⟩ (fun hHeld => ?_)
                  have HT5 := Aside0.mk (HTr.out.drew)
                  have HB5 : Aside0 (Below wo.heap.size wo wr.drew) := ⟨below_drew HB.out⟩
                  generalize wr.drew = wd at HT5 HB5 hHeld ⊢
                  refine take_ (i := 0) (N := some 25) (v := ?_) (a' := ?_) #[yT,yF,yF,yF,yF,yF,yF,yF,yF,yF,yF,yF,yF,yF,yF,yF,yF,yF,yF] rfl rfl (by kernel_rfl) (fun _ _ _ h => h) (Or.inl ⟨by rfl, ?_⟩) hHeld ?_ ?_; rotate_left; (·rintro w' ⟨s0, s1, s2⟩; go_simp; with_reducible rfl); rotate_left; (·simp only [putW]; rfl)
                  refine take_ (i := 1) (N := some 26) (v := ?_) (a' := ?_) #[yT,yT,yF,yF,yF,yF,yF,yF,yF,yF,yF,yF,yF,yF,yF,yF,yF,yF,yF] rfl rfl (by kernel_rfl) (fun _ _ _ h => h) (Or.inl ⟨by rfl, ?_⟩) hHeld ?_ ?_; rotate_left; (·rintro w' ⟨s0, s1, s2⟩; go_simp; with_reducible rfl); rotate_left; (·simp only [putW]; rfl)
                  refine take_ (i := 2) (N := some 27) (v := ?_) (a' := ?_) #[yT,yT,yT,yF,yF,yF,yF,yF,yF,yF,yF,yF,yF,yF,yF,yF,yF,yF,yF] rfl rfl (by kernel_rfl) (fun _ _ _ h => h) (Or.inl ⟨by rfl, ?_⟩) hHeld ?_ ?_; rotate_left; (·rintro w' ⟨s0, s1, s2⟩; go_simp; with_reducible rfl); rotate_left; (·simp only [putW]; rfl)
                  refine take_ (i := 3) (N := some 28) (v := ?_) (a' := ?_) #[yT,yT,yT,yT,yF,yF,yF,yF,yF,yF,yF,yF,yF,yF,yF,yF,yF,yF,yF] rfl rfl (by kernel_rfl) (fun _ _ _ h => h) (Or.inl ⟨by rfl, ?_⟩) hHeld ?_ ?_; rotate_left; (·rintro w' ⟨s0, s1, s2⟩; go_simp; with_reducible rfl); rotate_left; (·simp only [putW]; rfl)
                  refine take_ (i := 4) (N := some 29) (v := ?_) (a' := ?_) #[yT,yT,yT,yT,yT,yF,yF,yF,yF,yF,yF,yF,yF,yF,yF,yF,yF,yF,yF] rfl rfl (by kernel_rfl) (fun _ _ _ h => h) (Or.inl ⟨by rfl, ?_⟩) hHeld ?_ ?_; rotate_left; (·rintro w' ⟨s0, s1, s2⟩; go_simp; with_reducible rfl); rotate_left; (·simp only [putW]; rfl)
                  refine take_ (i := 5) (N := some 30) (v := ?_) (a' := ?_) #[yT,yT,yT,yT,yT,yT,yF,yF,yF,yF,yF,yF,yF,yF,yF,yF,yF,yF,yF] rfl rfl (by kernel_rfl) (fun _ _ _ h => h) (Or.inl ⟨by rfl, ?_⟩) hHeld ?_ ?_; rotate_left; (·rintro w' ⟨s0, s1, s2⟩; go_simp; with_reducible rfl); rotate_left; (·simp only [putW]; rfl)
                  refine take_ (i := 6) (N := some 31) (v := ?_) (a' := ?_) #[yT,yT,yT,yT,yT,yT,yT,yF,yF,yF,yF,yF,yF,yF,yF,yF,yF,yF,yF] rfl rfl (by kernel_rfl) (fun _ _ _ h => h) (Or.inl ⟨by rfl, ?_⟩) hHeld ?_ ?_; rotate_left; (·rintro w' ⟨s0, s1, s2⟩; go_simp; with_reducible rfl); rotate_left; (·simp only [putW]; rfl)
                  refine take_ (i := 7) (N := some 32) (v := undef) (a' := ?_) #[yT,yT,yT,yT,yT,yT,yT,yT,yF,yF,yF,yF,yF,yF,yF,yF,yF,yF,yF] rfl rfl (by kernel_rfl) (fun _ _ _ h => h) (Or.inr ⟨by rfl, rfl⟩) hHeld ?_ ?_; rotate_left; (·simp only [putW]; rfl)
                  refine take_ (i := 8) (N := some 33) (v := undef) (a' := ?_) #[yT,yT,yT,yT,yT,yT,yT,yT,yT,yF,yF,yF,yF,yF,yF,yF,yF,yF,yF] rfl rfl (by kernel_rfl) (fun _ _ _ h => h) (Or.inr ⟨by rfl, rfl⟩) hHeld ?_ ?_; rotate_left; (·simp only [putW]; rfl)
                  refine take_ (i := 9) (N := some 34) (v := undef) (a' := ?_) #[yT,yT,yT,yT,yT,yT,yT,yT,yT,yT,yF,yF,yF,yF,yF,yF,yF,yF,yF] rfl rfl (by kernel_rfl) (fun _ _ _ h => h) (Or.inr ⟨by rfl, rfl⟩) hHeld ?_ ?_; rotate_left; (·simp only [putW]; rfl)
                  refine take_ (i := 10) (N := some 35) (v := undef) (a' := ?_) #[yT,yT,yT,yT,yT,yT,yT,yT,yT,yT,yT,yF,yF,yF,yF,yF,yF,yF,yF] rfl rfl (by kernel_rfl) (fun _ _ _ h => h) (Or.inr ⟨by rfl, rfl⟩) hHeld ?_ ?_; rotate_left; (·simp only [putW]; rfl)
                  refine take_ (i := 11) (N := some 36) (v := undef) (a' := ?_) #[yT,yT,yT,yT,yT,yT,yT,yT,yT,yT,yT,yT,yF,yF,yF,yF,yF,yF,yF] rfl rfl (by kernel_rfl) (fun _ _ _ h => h) (Or.inr ⟨by rfl, rfl⟩) hHeld ?_ ?_; rotate_left; (·simp only [putW]; rfl)
                  refine take_ (i := 13) (N := some 38) (v := undef) (a' := ?_) #[yT,yT,yT,yT,yT,yT,yT,yT,yT,yT,yT,yT,yF,yT,yF,yF,yF,yF,yF] rfl rfl (by kernel_rfl) (fun _ _ _ h => h) (Or.inr ⟨by rfl, rfl⟩) hHeld ?_ ?_; rotate_left; (·simp only [putW]; rfl)
                  refine take_ (i := 14) (N := some 39) (v := undef) (a' := ?_) #[yT,yT,yT,yT,yT,yT,yT,yT,yT,yT,yT,yT,yF,yT,yT,yF,yF,yF,yF] rfl rfl (by kernel_rfl) (fun _ _ _ h => h) (Or.inr ⟨by rfl, rfl⟩) hHeld ?_ ?_; rotate_left; (·simp only [putW]; rfl)
                  refine take_ (i := 12) (N := some 37) (v := undef) (a' := ?_) #[yT,yT,yT,yT,yT,yT,yT,yT,yT,yT,yT,yT,yT,yT,yT,yF,yF,yF,yF] rfl rfl (by kernel_rfl) (fun _ _ _ h => h) (Or.inr ⟨by rfl, rfl⟩) hHeld ?_ ?_; rotate_left; (·simp only [putW]; rfl)
                  refine take_ (i := 15) (N := some 40) (v := undef) (a' := ?_) #[yT,yT,yT,yT,yT,yT,yT,yT,yT,yT,yT,yT,yT,yT,yT,yT,yF,yF,yF] rfl rfl (by kernel_rfl) (fun _ _ _ h => h) (Or.inr ⟨by rfl, rfl⟩) hHeld ?_ ?_; rotate_left; (·simp only [putW]; rfl)
                  refine take_ (i := 16) (N := some 41) (v := undef) (a' := ?_) #[yT,yT,yT,yT,yT,yT,yT,yT,yT,yT,yT,yT,yT,yT,yT,yT,yT,yF,yF] rfl rfl (by kernel_rfl) (fun _ _ _ h => h) (Or.inr ⟨by rfl, rfl⟩) hHeld ?_ ?_; rotate_left; (·simp only [putW]; rfl)
                  refine take_ (i := 17) (N := some 42) (v := undef) (a' := ?_) #[yT,yT,yT,yT,yT,yT,yT,yT,yT,yT,yT,yT,yT,yT,yT,yT,yT,yT,yF] rfl rfl (by kernel_rfl) (fun _ _ _ h => h) (Or.inr ⟨by rfl, rfl⟩) hHeld ?_ ?_; rotate_left; (·simp only [putW]; rfl)
                  refine take_ (i := 18) (N := some 43) (v := ?_) (a' := ?_) #[yT,yT,yT,yT,yT,yT,yT,yT,yT,yT,yT,yT,yT,yT,yT,yT,yT,yT,yT] rfl rfl (by kernel_rfl) (fun _ _ _ h => h) (Or.inl ⟨by rfl, ?_⟩) hHeld ?_ ?_; rotate_left; (·rintro w' ⟨s0, s1, s2⟩; go_simp; with_reducible rfl); rotate_left; (·simp only [putW]; rfl)
                  refine done_ (by kernel_rfl) ?_
                  clear hHeld hct0 hct1 hcg hcn
                  go_wp2
                  go_roundw
                  case rel => exact ⟨j + 1, by go_num, by omega, by rw [HBB.out], HB5⟩
                  case measure => simp [intOf]; omega
                | false =>
                  rw [hgj] at hcg
                  cases hbj : rbest n M g j with
                  | none =>
                    have hb1 : rbest n M g (j + 1) = some j := by rw [rbest_step, hgj, hbj]; simp
                    have HBB := Aside0.mk hb1
                    have he : encB none = -1 := rfl
                    rw [he]
                    clear hb1 hgj hbj he
                    go_upto_region 12 with (fail)
                    refine start_ (n := 19) (S := fun w' => w'.cell? ⟨tb, 0, none⟩ = some (.slice (some ⟨R, 0, none⟩) n cap) ∧ w'.cell? ⟨tb, 1, none⟩ = some (.slice (some ⟨Gb, 0, none⟩) n n) ∧ w'.cell? ⟨Gb, j, none⟩ = some (.bool false)) (ds := []) #[yF,yF,yF,yF,yF,yF,yF,yF,yF,yF,yF,yF,yF,yF,yF,yF,yF,yF,yF] (by kernel_rfl) rfl rfl ⟨hct0, hct1, hcg⟩ (fun hHeld => ?_)
                    have HT5 := Aside0.mk (HTr.out.drew)
                    have HB5 : Aside0 (Below wo.heap.size wo wr.drew) := ⟨below_drew HB.out⟩
                    generalize wr.drew = wd at HT5 HB5 hHeld ⊢
                    refine take_ (i := 0) (N := some 25) (v := ?_) (a' := ?_) #[yT,yF,yF,yF,yF,yF,yF,yF,yF,yF,yF,yF,yF,yF,yF,yF,yF,yF,yF] rfl rfl (by kernel_rfl) (fun _ _ _ h => h) (Or.inl ⟨by rfl, ?_⟩) hHeld ?_ ?_; rotate_left; (·rintro w' ⟨s0, s1, s2⟩; go_simp; with_reducible rfl); rotate_left; (·simp only [putW]; rfl)
                    refine take_ (i := 1) (N := some 26) (v := ?_) (a' := ?_) #[yT,yT,yF,yF,yF,yF,yF,yF,yF,yF,yF,yF,yF,yF,yF,yF,yF,yF,yF] rfl rfl (by kernel_rfl) (fun _ _ _ h => h) (Or.inl ⟨by rfl, ?_⟩) hHeld ?_ ?_; rotate_left; (·rintro w' ⟨s0, s1, s2⟩; go_simp; with_reducible rfl); rotate_left; (·simp only [putW]; rfl)
                    refine take_ (i := 2) (N := some 27) (v := ?_) (a' := ?_) #[yT,yT,yT,yF,yF,yF,yF,yF,yF,yF,yF,yF,yF,yF,yF,yF,yF,yF,yF] rfl rfl (by kernel_rfl) (fun _ _ _ h => h) (Or.inl ⟨by rfl, ?_⟩) hHeld ?_ ?_; rotate_left; (·rintro w' ⟨s0, s1, s2⟩; go_simp; with_reducible rfl); rotate_left; (·simp only [putW]; rfl)
                    refine take_ (i := 3) (N := some 28) (v := ?_) (a' := ?_) #[yT,yT,yT,yT,yF,yF,yF,yF,yF,yF,yF,yF,yF,yF,yF,yF,yF,yF,yF] rfl rfl (by kernel_rfl) (fun _ _ _ h => h) (Or.inl ⟨by rfl, ?_⟩) hHeld ?_ ?_; rotate_left; (·rintro w' ⟨s0, s1, s2⟩; go_simp; with_reducible rfl); rotate_left; (·simp only [putW]; rfl)
                    refine take_ (i := 4) (N := some 29) (v := ?_) (a' := ?_) #[yT,yT,yT,yT,yT,yF,yF,yF,yF,yF,yF,yF,yF,yF,yF,yF,yF,yF,yF] rfl rfl (by kernel_rfl) (fun _ _ _ h => h) (Or.inl ⟨by rfl, ?_⟩) hHeld ?_ ?_; rotate_left; (·rintro w' ⟨s0, s1, s2⟩; go_simp; with_reducible rfl); rotate_left; (·simp only [putW]; rfl)
                    refine take_ (i := 5) (N := some 30) (v := ?_) (a' := ?_) #[yT,yT,yT,yT,yT,yT,yF,yF,yF,yF,yF,yF,yF,yF,yF,yF,yF,yF,yF] rfl rfl (by kernel_rfl) (fun _ _ _ h => h) (Or.inl ⟨by rfl, ?_⟩) hHeld ?_ ?_; rotate_left; (·rintro w' ⟨s0, s1, s2⟩; go_simp; with_reducible rfl); rotate_left; (·simp only [putW]; rfl)
                    refine take_ (i := 6) (N := some 31) (v := ?_) (a' := ?_) #[yT,yT,yT,yT,yT,yT,yT,yF,yF,yF,yF,yF,yF,yF,yF,yF,yF,yF,yF] rfl rfl (by kernel_rfl) (fun _ _ _ h => h) (Or.inl ⟨by rfl, ?_⟩) hHeld ?_ ?_; rotate_left; (·rintro w' ⟨s0, s1, s2⟩; go_simp; with_reducible rfl); rotate_left; (·simp only [putW]; rfl)
                    refine take_ (i := 7) (N := some 32) (v := ?_) (a' := ?_) #[yT,yT,yT,yT,yT,yT,yT,yT,yF,yF,yF,yF,yF,yF,yF,yF,yF,yF,yF] rfl rfl (by kernel_rfl) (fun _ _ _ h => h) (Or.inl ⟨by rfl, ?_⟩) hHeld ?_ ?_; rotate_left; (·rintro w' ⟨s0, s1, s2⟩; go_simp; with_reducible rfl); rotate_left; (·simp only [putW]; rfl)
                    refine take_ (i := 8) (N := some 33) (v := ?_) (a' := ?_) #[yT,yT,yT,yT,yT,yT,yT,yT,yT,yF,yF,yF,yF,yF,yF,yF,yF,yF,yF] rfl rfl (by kernel_rfl) (fun _ _ _ h => h) (Or.inl ⟨by rfl, ?_⟩) hHeld ?_ ?_; rotate_left; (·rintro w' ⟨s0, s1, s2⟩; go_simp; with_reducible rfl); rotate_left; (·simp only [putW]; rfl)
                    refine take_ (i := 9) (N := some 34) (v := ?_) (a' := ?_) #[yT,yT,yT,yT,yT,yT,yT,yT,yT,yT,yF,yF,yF,yF,yF,yF,yF,yF,yF] rfl rfl (by kernel_rfl) (fun _ _ _ h => h) (Or.inl ⟨by rfl, ?_⟩) hHeld ?_ ?_; rotate_left; (·rintro w' ⟨s0, s1, s2⟩; go_simp; with_reducible rfl); rotate_left; (·simp only [putW]; rfl)
                    refine take_ (i := 10) (N := some 35) (v := undef) (a' := ?_) #[yT,yT,yT,yT,yT,yT,yT,yT,yT,yT,yT,yF,yF,yF,yF,yF,yF,yF,yF] rfl rfl (by kernel_rfl) (fun _ _ _ h => h) (Or.inr ⟨by rfl, rfl⟩) hHeld ?_ ?_; rotate_left; (·simp only [putW]; rfl)
                    refine take_ (i := 11) (N := some 36) (v := undef) (a' := ?_) #[yT,yT,yT,yT,yT,yT,yT,yT,yT,yT,yT,yT,yF,yF,yF,yF,yF,yF,yF] rfl rfl (by kernel_rfl) (fun _ _ _ h => h) (Or.inr ⟨by rfl, rfl⟩) hHeld ?_ ?_; rotate_left; (·simp only [putW]; rfl)
                    refine take_ (i := 13) (N := some 38) (v := undef) (a' := ?_) #[yT,yT,yT,yT,yT,yT,yT,yT,yT,yT,yT,yT,yF,yT,yF,yF,yF,yF,yF] rfl rfl (by kernel_rfl) (fun _ _ _ h => h) (Or.inr ⟨by rfl, rfl⟩) hHeld ?_ ?_; rotate_left; (·simp only [putW]; rfl)
                    refine take_ (i := 14) (N := some 39) (v := undef) (a' := ?_) #[yT,yT,yT,yT,yT,yT,yT,yT,yT,yT,yT,yT,yF,yT,yT,yF,yF,yF,yF] rfl rfl (by kernel_rfl) (fun _ _ _ h => h) (Or.inr ⟨by rfl, rfl⟩) hHeld ?_ ?_; rotate_left; (·simp only [putW]; rfl)
                    refine take_ (i := 12) (N := some 37) (v := undef) (a' := ?_) #[yT,yT,yT,yT,yT,yT,yT,yT,yT,yT,yT,yT,yT,yT,yT,yF,yF,yF,yF] rfl rfl (by kernel_rfl) (fun _ _ _ h => h) (Or.inr ⟨by rfl, rfl⟩) hHeld ?_ ?_; rotate_left; (·simp only [putW]; rfl)
                    refine take_ (i := 15) (N := some 40) (v := undef) (a' := ?_) #[yT,yT,yT,yT,yT,yT,yT,yT,yT,yT,yT,yT,yT,yT,yT,yT,yF,yF,yF] rfl rfl (by kernel_rfl) (fun _ _ _ h => h) (Or.inr ⟨by rfl, rfl⟩) hHeld ?_ ?_; rotate_left; (·simp only [putW]; rfl)
                    refine take_ (i := 16) (N := some 41) (v := undef) (a' := ?_) #[yT,yT,yT,yT,yT,yT,yT,yT,yT,yT,yT,yT,yT,yT,yT,yT,yT,yF,yF] rfl rfl (by kernel_rfl) (fun _ _ _ h => h) (Or.inr ⟨by rfl, rfl⟩) hHeld ?_ ?_; rotate_left; (·simp only [putW]; rfl)
                    refine take_ (i := 17) (N := some 42) (v := ?_) (a' := ?_) #[yT,yT,yT,yT,yT,yT,yT,yT,yT,yT,yT,yT,yT,yT,yT,yT,yT,yT,yF] rfl rfl (by kernel_rfl) (fun _ _ _ h => h) (Or.inl ⟨by rfl, ?_⟩) hHeld ?_ ?_; rotate_left; (·rintro w' ⟨s0, s1, s2⟩; go_simp; with_reducible rfl); rotate_left; (·simp only [putW]; rfl)
                    refine take_ (i := 18) (N := some 43) (v := ?_) (a' := ?_) #[yT,yT,yT,yT,yT,yT,yT,yT,yT,yT,yT,yT,yT,yT,yT,yT,yT,yT,yT] rfl rfl (by kernel_rfl) (fun _ _ _ h => h) (Or.inl ⟨by rfl, ?_⟩) hHeld ?_ ?_; rotate_left; (·rintro w' ⟨s0, s1, s2⟩; go_simp; with_reducible rfl); rotate_left; (·simp only [putW]; rfl)
                    refine done_ (by kernel_rfl) ?_
                    clear hHeld hct0 hct1 hcg hcn
                    go_wp2
                    go_roundw
                    case rel => exact ⟨j + 1, by go_num, by omega, by rw [HBB.out]; rfl, HB5⟩
                    case measure => simp [intOf]; omega
                  | some b =>
                    have hbn : b < n := by have := (rbest_lt hbj).1; omega
                    have hb1 : rbest n M g (j + 1) = if degT M g j n < degT M g b n then some j else some b := by rw [rbest_step, hgj, hbj]; simp
                    have HBB := Aside0.mk hb1
                    have he : encB (some b) = (b : Int) := rfl
                    rw [he]
                    clear hb1 hgj hbj he
                    have hbz : decide ((b : Int) < 0) = false := by simp
                    have hbz2 : ¬ (b : Int) < 0 := by omega
                    by_cases hlen : degT M g j n < degT M g b n
                    · rw [if_pos hlen] at HBB
                      go_upto_region 12 with (fail)
                      refine start_ (n := 19) (S := fun w' => w'.cell? ⟨tb, 0, none⟩ = some (.slice (some ⟨R, 0, none⟩) n cap) ∧ w'.cell? ⟨tb, 1, none⟩ = some (.slice (some ⟨Gb, 0, none⟩) n n) ∧ w'.cell? ⟨Gb, j, none⟩ = some (.bool false)) (ds := []) #[yF,yF,yF,yF,yF,yF,yF,yF,yF,yF,yF,yF,yF,yF,yF,yF,yF,yF,yF] (by kernel_rfl) rfl rfl ⟨hct0, hct1, hcg⟩ (fun hHeld => ?_)
                      have HT5 := Aside0.mk (HTr.out.drew)
                      have HB5 : Aside0 (Below wo.heap.size wo wr.drew) := ⟨below_drew HB.out⟩
                      generalize wr.drew = wd at HT5 HB5 hHeld ⊢
                      refine take_ (i := 0) (N := some 25) (v := ?_) (a' := ?_) #[yT,yF,yF,yF,yF,yF,yF,yF,yF,yF,yF,yF,yF,yF,yF,yF,yF,yF,yF] rfl rfl (by kernel_rfl) (fun _ _ _ h => h) (Or.inl ⟨by rfl, ?_⟩) hHeld ?_ ?_; rotate_left; (·rintro w' ⟨s0, s1, s2⟩; go_simp; with_reducible rfl); rotate_left; (·simp only [putW]; rfl)
                      refine take_ (i := 1) (N := some 26) (v := ?_) (a' := ?_) #[yT,yT,yF,yF,yF,yF,yF,yF,yF,yF,yF,yF,yF,yF,yF,yF,yF,yF,yF] rfl rfl (by kernel_rfl) (fun _ _ _ h => h) (Or.inl ⟨by rfl, ?_⟩) hHeld ?_ ?_; rotate_left; (·rintro w' ⟨s0, s1, s2⟩; go_simp; with_reducible rfl); rotate_left; (·simp only [putW]; rfl)
                      refine take_ (i := 2) (N := some 27) (v := ?_) (a' := ?_) #[yT,yT,yT,yF,yF,yF,yF,yF,yF,yF,yF,yF,yF,yF,yF,yF,yF,yF,yF] rfl rfl (by kernel_rfl) (fun _ _ _ h => h) (Or.inl ⟨by rfl, ?_⟩) hHeld ?_ ?_; rotate_left; (·rintro w' ⟨s0, s1, s2⟩; go_simp; with_reducible rfl); rotate_left; (·simp only [putW]; rfl)
                      refine take_ (i := 3) (N := some 28) (v := ?_) (a' := ?_) #[yT,yT,yT,yT,yF,yF,yF,yF,yF,yF,yF,yF,yF,yF,yF,yF,yF,yF,yF] rfl rfl (by kernel_rfl) (fun _ _ _ h => h) (Or.inl ⟨by rfl, ?_⟩) hHeld ?_ ?_; rotate_left; (·rintro w' ⟨s0, s1, s2⟩; go_simp; with_reducible rfl); rotate_left; (·simp only [putW]; rfl)
                      refine take_ (i := 4) (N := some 29) (v := ?_) (a' := ?_) #[yT,yT,yT,yT,yT,yF,yF,yF,yF,yF,yF,yF,yF,yF,yF,yF,yF,yF,yF] rfl rfl (by kernel_rfl) (fun _ _ _ h => h) (Or.inl ⟨by rfl, ?_⟩) hHeld ?_ ?_; rotate_left; (·rintro w' ⟨s0, s1, s2⟩; go_simp; with_reducible rfl); rotate_left; (·simp only [putW]; rfl)
                      refine take_ (i := 5) (N := some 30) (v := ?_) (a' := ?_) #[yT,yT,yT,yT,yT,yT,yF,yF,yF,yF,yF,yF,yF,yF,yF,yF,yF,yF,yF] rfl rfl (by kernel_rfl) (fun _ _ _ h => h) (Or.inl ⟨by rfl, ?_⟩) hHeld ?_ ?_; rotate_left; (·rintro w' ⟨s0, s1, s2⟩; go_simp; with_reducible rfl); rotate_left; (·simp only [putW]; rfl)
                      refine take_ (i := 6) (N := some 31) (v := ?_) (a' := ?_) #[yT,yT,yT,yT,yT,yT,yT,yF,yF,yF,yF,yF,yF,yF,yF,yF,yF,yF,yF] rfl rfl (by kernel_rfl) (fun _ _ _ h => h) (Or.inl ⟨by rfl, ?_⟩) hHeld ?_ ?_; rotate_left; (·rintro w' ⟨s0, s1, s2⟩; go_simp; with_reducible rfl); rotate_left; (·simp only [putW]; rfl)
                      refine take_ (i := 7) (N := some 32) (v := ?_) (a' := ?_) #[yT,yT,yT,yT,yT,yT,yT,yT,yF,yF,yF,yF,yF,yF,yF,yF,yF,yF,yF] rfl rfl (by kernel_rfl) (fun _ _ _ h => h) (Or.inl ⟨by rfl, ?_⟩) hHeld ?_ ?_; rotate_left; (·rintro w' ⟨s0, s1, s2⟩; go_simp; with_reducible rfl); rotate_left; (·simp only [putW]; rfl)
                      refine take_ (i := 8) (N := some 33) (v := ?_) (a' := ?_) #[yT,yT,yT,yT,yT,yT,yT,yT,yT,yF,yF,yF,yF,yF,yF,yF,yF,yF,yF] rfl rfl (by kernel_rfl) (fun _ _ _ h => h) (Or.inl ⟨by rfl, ?_⟩) hHeld ?_ ?_; rotate_left; (·rintro w' ⟨s0, s1, s2⟩; go_simp; (try simp only [hbz]); with_reducible rfl); rotate_left; (·simp only [putW]; rfl)
                      refine take_ (i := 9) (N := some 34) (v := ?_) (a' := ?_) #[yT,yT,yT,yT,yT,yT,yT,yT,yT,yT,yF,yF,yF,yF,yF,yF,yF,yF,yF] rfl rfl (by kernel_rfl) (fun _ _ _ h => h) (Or.inl ⟨by rfl, ?_⟩) hHeld ?_ ?_; rotate_left; (·rintro w' ⟨s0, s1, s2⟩; go_simp; (try simp only [hbz]); with_reducible rfl); rotate_left; (·simp only [putW]; rfl)
                      refine take_ (i := 10) (N := some 35) (v := ?_) (a' := ?_) #[yT,yT,yT,yT,yT,yT,yT,yT,yT,yT,yT,yF,yF,yF,yF,yF,yF,yF,yF] rfl rfl (by kernel_rfl) (fun _ _ _ h => h) (Or.inl ⟨by rfl, ?_⟩) hHeld ?_ ?_; rotate_left; (·rintro w' ⟨s0, s1, s2⟩; go_simp; with_reducible rfl); rotate_left; (·simp only [putW]; rfl)
                      refine take_ (i := 11) (N := some 36) (v := ?_) (a' := ?_) #[yT,yT,yT,yT,yT,yT,yT,yT,yT,yT,yT,yT,yF,yF,yF,yF,yF,yF,yF] rfl rfl (by kernel_rfl) (fun _ _ _ h => h) (Or.inl ⟨by rfl, ?_⟩) hHeld ?_ ?_; rotate_left; (·rintro w' ⟨s0, s1, s2⟩; go_simp; with_reducible rfl); rotate_left; (·simp only [putW]; rfl)
                      refine take_ (i := 13) (N := some 38) (v := ?_) (a' := ?_) #[yT,yT,yT,yT,yT,yT,yT,yT,yT,yT,yT,yT,yF,yT,yF,yF,yF,yF,yF] rfl rfl (by kernel_rfl) (fun _ _ _ h => h) (Or.inl ⟨by rfl, ?_⟩) hHeld ?_ ?_; rotate_left; (·rintro w' ⟨s0, s1, s2⟩; go_simp; with_reducible rfl); rotate_left; (·simp only [putW]; rfl)
                      refine take_ (i := 14) (N := some 39) (v := ?_) (a' := ?_) #[yT,yT,yT,yT,yT,yT,yT,yT,yT,yT,yT,yT,yF,yT,yT,yF,yF,yF,yF] rfl rfl (by kernel_rfl) (fun _ _ _ h => h) (Or.inl ⟨by rfl, ?_⟩) hHeld ?_ ?_; rotate_left; (·rintro w' ⟨s0, s1, s2⟩; go_simp; with_reducible rfl); rotate_left; (·simp only [putW]; rfl)
                      refine one_ (i := 12) (N := some 37) #[yT,yT,yT,yT,yT,yT,yT,yT,yT,yT,yT,yT,yT,yT,yT,yF,yF,yF,yF] rfl rfl (by kernel_rfl) (by decide) (fun K hK => ?_)
                      refine goes_ Try.func48 (by kernel_rfl) rfl #[tabV R cap Gb n, .int .i64 (j : Int)] (by rfl) rfl rfl byL ?_
                      refine (Degree.calls base R cap Gb n rb M g j wd HT5.out hjn hn2 hcap).mono ?_
                      rintro e wc12 ⟨rfl, hbc⟩
                      refine ⟨_, rfl, ?_⟩
                      refine hK.out _ _ ⟨pw_cell_below hbc hHeld.1, pw_cell_below hbc hHeld.2.1, pw_cell_below hbc hHeld.2.2⟩ (fun hHeld => ?_)
                      have HT6 := Aside0.mk (HT5.out.below hbc)
                      have HB6 := Aside0.mk (below_step HB5.out hbc)
                      clear hK K hbc
                      refine norm_ (a' := ?_) ?_ ?_; rotate_left; (·show Act.put _ (some 37) _ = _; simp only [putW]; rfl)
                      refine one_ (i := 15) (N := some 40) #[yT,yT,yT,yT,yT,yT,yT,yT,yT,yT,yT,yT,yT,yT,yT,yT,yF,yF,yF] rfl rfl (by kernel_rfl) (by decide) (fun K hK => ?_)
                      refine goes_ Try.func48 (by kernel_rfl) rfl #[tabV R cap Gb n, .int .i64 (b : Int)] (by rfl) rfl rfl byL ?_
                      refine (Degree.calls base R cap Gb n rb M g b wc12 HT6.out hbn hn2 hcap).mono ?_
                      rintro e wc15 ⟨rfl, hbc⟩
                      refine ⟨_, rfl, ?_⟩
                      refine hK.out _ _ ⟨pw_cell_below hbc hHeld.1, pw_cell_below hbc hHeld.2.1, pw_cell_below hbc hHeld.2.2⟩ (fun hHeld => ?_)
                      have HT7 := Aside0.mk (HT6.out.below hbc)
                      have HB7 := Aside0.mk (below_step HB6.out hbc)
                      clear hK K hbc
                      refine norm_ (a' := ?_) ?_ ?_; rotate_left; (·show Act.put _ (some 40) _ = _; simp only [putW]; rfl)
                      refine take_ (i := 16) (N := some 41) (v := ?_) (a' := ?_) #[yT,yT,yT,yT,yT,yT,yT,yT,yT,yT,yT,yT,yT,yT,yT,yT,yT,yF,yF] rfl rfl (by kernel_rfl) (fun _ _ _ h => h) (Or.inl ⟨by rfl, ?_⟩) hHeld ?_ ?_; rotate_left; (·rintro w' ⟨s0, s1, s2⟩; go_simp; with_reducible rfl); rotate_left; (·simp only [putW]; rfl)
                      refine take_ (i := 17) (N := some 42) (v := ?_) (a' := ?_) #[yT,yT,yT,yT,yT,yT,yT,yT,yT,yT,yT,yT,yT,yT,yT,yT,yT,yT,yF] rfl rfl (by kernel_rfl) (fun _ _ _ h => h) (Or.inl ⟨by rfl, ?_⟩) hHeld ?_ ?_; rotate_left; (·rintro w' ⟨s0, s1, s2⟩; go_simp; with_reducible rfl); rotate_left; (·simp only [putW]; rfl)
                      refine take_ (i := 18) (N := some 43) (v := ?_) (a' := ?_) #[yT,yT,yT,yT,yT,yT,yT,yT,yT,yT,yT,yT,yT,yT,yT,yT,yT,yT,yT] rfl rfl (by kernel_rfl) (fun _ _ _ h => h) (Or.inl ⟨by rfl, ?_⟩) hHeld ?_ ?_; rotate_left; (·rintro w' ⟨s0, s1, s2⟩; go_simp; with_reducible rfl); rotate_left; (·simp only [putW]; rfl)
                      refine done_ (by kernel_rfl) ?_
                      clear hHeld hct0 hct1 hcg hcn
                      go_wp2
                      go_roundw
                      case rel => exact ⟨j + 1, by go_num, by omega, by rw [HBB.out]; rfl, HB7⟩
                      case measure => simp [intOf]; omega
                    · rw [if_neg hlen] at HBB
                      go_upto_region 12 with (fail)
                      refine start_ (n := 19) (S := fun w' => w'.cell? ⟨tb, 0, none⟩ = some (.slice (some ⟨R, 0, none⟩) n cap) ∧ w'.cell? ⟨tb, 1, none⟩ = some (.slice (some ⟨Gb, 0, none⟩) n n) ∧ w'.cell? ⟨Gb, j, none⟩ = some (.bool false)) (ds := []) #[yF,yF,yF,yF,yF,yF,yF,yF,yF,yF,yF,yF,yF,yF,yF,yF,yF,yF,yF] (by kernel_rfl) rfl rfl ⟨hct0, hct1, hcg⟩ (fun hHeld => ?_)
                      have HT5 := Aside0.mk (HTr.out.drew)
                      have HB5 : Aside0 (Below wo.heap.size wo wr.drew) := ⟨below_drew HB.out⟩
                      generalize wr.drew = wd at HT5 HB5 hHeld ⊢
                      refine take_ (i := 0) (N := some 25) (v := ?_) (a' := ?_) #[yT,yF,yF,yF,yF,yF,yF,yF,yF,yF,yF,yF,yF,yF,yF,yF,yF,yF,yF] rfl rfl (by kernel_rfl) (fun _ _ _ h => h) (Or.inl ⟨by rfl, ?_⟩) hHeld ?_ ?_; rotate_left; (·rintro w' ⟨s0, s1, s2⟩; go_simp; with_reducible rfl); rotate_left; (·simp only [putW]; rfl)
                      refine take_ (i := 1) (N := some 26) (v := ?_) (a' := ?_) #[yT,yT,yF,yF,yF,yF,yF,yF,yF,yF,yF,yF,yF,yF,yF,yF,yF,yF,yF] rfl rfl (by kernel_rfl) (fun _ _ _ h => h) (Or.inl ⟨by rfl, ?_⟩) hHeld ?_ ?_; rotate_left; (·rintro w' ⟨s0, s1, s2⟩; go_simp; with_reducible rfl); rotate_left; (·simp only [putW]; rfl)
                      refine take_ (i := 2) (N := some 27) (v := ?_) (a' := ?_) #[yT,yT,yT,yF,yF,yF,yF,yF,yF,yF,yF,yF,yF,yF,yF,yF,yF,yF,yF] rfl rfl (by kernel_rfl) (fun _ _ _ h => h) (Or.inl ⟨by rfl, ?_⟩) hHeld ?_ ?_; rotate_left; (·rintro w' ⟨s0, s1, s2⟩; go_simp; with_reducible rfl); rotate_left; (·simp only [putW]; rfl)
                      refine take_ (i := 3) (N := some 28) (v := ?_) (a' := ?_) #[yT,yT,yT,yT,yF,yF,yF,yF,yF,yF,yF,yF,yF,yF,yF,yF,yF,yF,yF] rfl rfl (by kernel_rfl) (fun _ _ _ h => h) (Or.inl ⟨by rfl, ?_⟩) hHeld ?_ ?_; rotate_left; (·rintro w' ⟨s0, s1, s2⟩; go_simp; with_reducible rfl); rotate_left; (·simp only [putW]; rfl)
                      refine take_ (i := 4) (N := some 29) (v := ?_) (a' := ?_) #[yT,yT,yT,yT,yT,yF,yF,yF,yF,yF,yF,yF,yF,yF,yF,yF,yF,yF,yF] rfl rfl (by kernel_rfl) (fun _ _ _ h => h) (Or.inl ⟨by rfl, ?_⟩) hHeld ?_ ?_; rotate_left; (·rintro w' ⟨s0, s1, s2⟩; go_simp; with_reducible rfl); rotate_left; (·simp only [putW]; rfl)
                      refine take_ (i := 5) (N := some 30) (v := ?_) (a' := ?_) #[yT,yT,yT,yT,yT,yT,yF,yF,yF,yF,yF,yF,yF,yF,yF,yF,yF,yF,yF] rfl rfl (by kernel_rfl) (fun _ _ _ h => h) (Or.inl ⟨by rfl, ?_⟩) hHeld ?_ ?_; rotate_left; (·rintro w' ⟨s0, s1, s2⟩; go_simp; with_reducible rfl); rotate_left; (·simp only [putW]; rfl)
                      refine take_ (i := 6) (N := some 31) (v := ?_) (a' := ?_) #[yT,yT,yT,yT,yT,yT,yT,yF,yF,yF,yF,yF,yF,yF,yF,yF,yF,yF,yF] rfl rfl (by kernel_rfl) (fun _ _ _ h => h) (Or.inl ⟨by rfl, ?_⟩) hHeld ?_ ?_; rotate_left; (·rintro w' ⟨s0, s1, s2⟩; go_simp; with_reducible rfl); rotate_left; (·simp only [putW]; rfl)
                      refine take_ (i := 7) (N := some 32) (v := ?_) (a' := ?_) #[yT,yT,yT,yT,yT,yT,yT,yT,yF,yF,yF,yF,yF,yF,yF,yF,yF,yF,yF] rfl rfl (by kernel_rfl) (fun _ _ _ h => h) (Or.inl ⟨by rfl, ?_⟩) hHeld ?_ ?_; rotate_left; (·rintro w' ⟨s0, s1, s2⟩; go_simp; with_reducible rfl); rotate_left; (·simp only [putW]; rfl)
                      refine take_ (i := 8) (N := some 33) (v := ?_) (a' := ?_) #[yT,yT,yT,yT,yT,yT,yT,yT,yT,yF,yF,yF,yF,yF,yF,yF,yF,yF,yF] rfl rfl (by kernel_rfl) (fun _ _ _ h => h) (Or.inl ⟨by rfl, ?_⟩) hHeld ?_ ?_; rotate_left; (·rintro w' ⟨s0, s1, s2⟩; go_simp; (try simp only [hbz]); with_reducible rfl); rotate_left; (·simp only [putW]; rfl)
                      refine take_ (i := 9) (N := some 34) (v := ?_) (a' := ?_) #[yT,yT,yT,yT,yT,yT,yT,yT,yT,yT,yF,yF,yF,yF,yF,yF,yF,yF,yF] rfl rfl (by kernel_rfl) (fun _ _ _ h => h) (Or.inl ⟨by rfl, ?_⟩) hHeld ?_ ?_; rotate_left; (·rintro w' ⟨s0, s1, s2⟩; go_simp; (try simp only [hbz]); with_reducible rfl); rotate_left; (·simp only [putW]; rfl)
                      refine take_ (i := 10) (N := some 35) (v := ?_) (a' := ?_) #[yT,yT,yT,yT,yT,yT,yT,yT,yT,yT,yT,yF,yF,yF,yF,yF,yF,yF,yF] rfl rfl (by kernel_rfl) (fun _ _ _ h => h) (Or.inl ⟨by rfl, ?_⟩) hHeld ?_ ?_; rotate_left; (·rintro w' ⟨s0, s1, s2⟩; go_simp; with_reducible rfl); rotate_left; (·simp only [putW]; rfl)
                      refine take_ (i := 11) (N := some 36) (v := ?_) (a' := ?_) #[yT,yT,yT,yT,yT,yT,yT,yT,yT,yT,yT,yT,yF,yF,yF,yF,yF,yF,yF] rfl rfl (by kernel_rfl) (fun _ _ _ h => h) (Or.inl ⟨by rfl, ?_⟩) hHeld ?_ ?_; rotate_left; (·rintro w' ⟨s0, s1, s2⟩; go_simp; with_reducible rfl); rotate_left; (·simp only [putW]; rfl)
                      refine take_ (i := 13) (N := some 38) (v := ?_) (a' := ?_) #[yT,yT,yT,yT,yT,yT,yT,yT,yT,yT,yT,yT,yF,yT,yF,yF,yF,yF,yF] rfl rfl (by kernel_rfl) (fun _ _ _ h => h) (Or.inl ⟨by rfl, ?_⟩) hHeld ?_ ?_; rotate_left; (·rintro w' ⟨s0, s1, s2⟩; go_simp; with_reducible rfl); rotate_left; (·simp only [putW]; rfl)
                      refine take_ (i := 14) (N := some 39) (v := ?_) (a' := ?_) #[yT,yT,yT,yT,yT,yT,yT,yT,yT,yT,yT,yT,yF,yT,yT,yF,yF,yF,yF] rfl rfl (by kernel_rfl) (fun _ _ _ h => h) (Or.inl ⟨by rfl, ?_⟩) hHeld ?_ ?_; rotate_left; (·rintro w' ⟨s0, s1, s2⟩; go_simp; with_reducible rfl); rotate_left; (·simp only [putW]; rfl)
                      refine one_ (i := 12) (N := some 37) #[yT,yT,yT,yT,yT,yT,yT,yT,yT,yT,yT,yT,yT,yT,yT,yF,yF,yF,yF] rfl rfl (by kernel_rfl) (by decide) (fun K hK => ?_)
                      refine goes_ Try.func48 (by kernel_rfl) rfl #[tabV R cap Gb n, .int .i64 (j : Int)] (by rfl) rfl rfl byL ?_
                      refine (Degree.calls base R cap Gb n rb M g j wd HT5.out hjn hn2 hcap).mono ?_
                      rintro e wc12 ⟨rfl, hbc⟩
                      refine ⟨_, rfl, ?_⟩
                      refine hK.out _ _ ⟨pw_cell_below hbc hHeld.1, pw_cell_below hbc hHeld.2.1, pw_cell_below hbc hHeld.2.2⟩ (fun hHeld => ?_)
                      have HT6 := Aside0.mk (HT5.out.below hbc)
                      have HB6 := Aside0.mk (below_step HB5.out hbc)
                      clear hK K hbc
                      refine norm_ (a' := ?_) ?_ ?_; rotate_left; (·show Act.put _ (some 37) _ = _; simp only [putW]; rfl)
                      refine one_ (i := 15) (N := some 40) #[yT,yT,yT,yT,yT,yT,yT,yT,yT,yT,yT,yT,yT,yT,yT,yT,yF,yF,yF] rfl rfl (by kernel_rfl) (by decide) (fun K hK => ?_)
                      refine goes_ Try.func48 (by kernel_rfl) rfl #[tabV R cap Gb n, .int .i64 (b : Int)] (by rfl) rfl rfl byL ?_
                      refine (Degree.calls base R cap Gb n rb M g b wc12 HT6.out hbn hn2 hcap).mono ?_
                      rintro e wc15 ⟨rfl, hbc⟩
                      refine ⟨_, rfl, ?_⟩
                      refine hK.out _ _ ⟨pw_cell_below hbc hHeld.1, pw_cell_below hbc hHeld.2.1, pw_cell_below hbc hHeld.2.2⟩ (fun hHeld => ?_)
                      have HT7 := Aside0.mk (HT6.out.below hbc)
                      have HB7 := Aside0.mk (below_step HB6.out hbc)
                      clear hK K hbc
                      refine norm_ (a' := ?_) ?_ ?_; rotate_left; (·show Act.put _ (some 40) _ = _; simp only [putW]; rfl)
                      refine take_ (i := 16) (N := some 41) (v := ?_) (a' := ?_) #[yT,yT,yT,yT,yT,yT,yT,yT,yT,yT,yT,yT,yT,yT,yT,yT,yT,yF,yF] rfl rfl (by kernel_rfl) (fun _ _ _ h => h) (Or.inl ⟨by rfl, ?_⟩) hHeld ?_ ?_; rotate_left; (·rintro w' ⟨s0, s1, s2⟩; go_simp; with_reducible rfl); rotate_left; (·simp only [putW]; rfl)
                      refine take_ (i := 17) (N := some 42) (v := ?_) (a' := ?_) #[yT,yT,yT,yT,yT,yT,yT,yT,yT,yT,yT,yT,yT,yT,yT,yT,yT,yT,yF] rfl rfl (by kernel_rfl) (fun _ _ _ h => h) (Or.inl ⟨by rfl, ?_⟩) hHeld ?_ ?_; rotate_left; (·rintro w' ⟨s0, s1, s2⟩; go_simp; with_reducible rfl); rotate_left; (·simp only [putW]; rfl)
                      refine take_ (i := 18) (N := some 43) (v := ?_) (a' := ?_) #[yT,yT,yT,yT,yT,yT,yT,yT,yT,yT,yT,yT,yT,yT,yT,yT,yT,yT,yT] rfl rfl (by kernel_rfl) (fun _ _ _ h => h) (Or.inl ⟨by rfl, ?_⟩) hHeld ?_ ?_; rotate_left; (·rintro w' ⟨s0, s1, s2⟩; go_simp; with_reducible rfl); rotate_left; (·simp only [putW]; rfl)
                      refine done_ (by kernel_rfl) ?_
                      clear hHeld hct0 hct1 hcg hcn
                      go_wp2
                      go_roundw
                      case rel => exact ⟨j + 1, by go_num, by omega, by rw [HBB.out]; rfl, HB7⟩
                      case measure => simp [intOf]; omega
              · have hj2 : j = n := by omega
                subst hj2
                obtain ⟨b, hbest, hbn, hgb⟩ := HO.out.1.best (M := M) (by rw [HO.out.2]; exact hlt)
                have HBE := Aside0.mk hbest
                have HGB := Aside0.mk hgb
                have hbe : encB (rbest j M g j) = (b : Int) := by rw [hbest]; rfl
                rw [hbe]
                have HRj : Aside0 (Kd.R (Kd.int .i64) 3 wr w.heap.size (fun q => ¬ TbT Gb rb j q ∧ q ≠ tb ∧ q ≠ w.heap.size ∧ q ≠ R) (.slice A4 O.length c4) O) := ⟨Kd.R_below HR.out HB.out⟩
                have HKj := Aside0.mk (blk_below HK.out HB.out)
                have HKGj := Aside0.mk (blk_below HKG.out HB.out)
                have HBj := Aside0.mk (below_step HBW.out HB.out)
                have hOl : O.length ≤ 20000 := by have := HO.out.2; omega
                clear hbest hgb hbe
                go_wp2_with (fail)
                refine (Eliminate.calls base R cap Gb j rb M g b wr HTr.out hbn hn2 hcap).mono ?_
                rintro e w5 ⟨rfl, hT5, hE5⟩
                have HT5 := Aside0.mk hT5
                have HE5 := Aside0.mk hE5
                have HK5 : Aside0 (w5.heap[tb]? = some (.cells #[.slice (some ⟨R, 0, none⟩) j cap, .slice (some ⟨Gb, 0, none⟩) j j] 58 (0, 0))) := ⟨(hE5.block _ (sb_lt HKj.out) HNT.out.1).trans HKj.out⟩
                have HKG5 : Aside0 (w5.heap[w.heap.size]? = some (.cells #[.int .i64 (j : Int), .slice A0_1 l0_1.length c0_1] 24 (0, 0))) := ⟨(hE5.block _ (sb_lt HKGj.out) HNT.out.2.1).trans HKGj.out⟩
                have HR5 : Aside0 (Kd.R (Kd.int .i64) 3 w5 w.heap.size (fun q => ¬ TbT Gb rb j q ∧ q ≠ tb ∧ q ≠ w.heap.size ∧ q ≠ R) (.slice A4 O.length c4) O) := ⟨Kd.R_step HRj.out (fun q hq hlt => hE5.block q hlt hq.1)⟩
                have HB5 : Aside0 (Below w.heap.size w w5) := ⟨HBj.out.trans (hE5.out HBj.out.size (fun q hT => by
                  rcases hT with rfl | ⟨i, hi, rfl⟩
                  · have := HTr.out.lo
                    omega
                  · have := HTr.out.los i hi
                    omega))⟩
                have HFR : Aside0 (∀ q_, w5.heap.size ≤ q_ → ¬ TbT Gb rb j q_ ∧ q_ ≠ tb ∧ q_ ≠ w.heap.size ∧ q_ ≠ R) := ⟨fun q_ hq => ⟨fun hT => by
                  rcases hT with rfl | ⟨i, hi, rfl⟩
                  · have := HT5.out.top.2
                    omega
                  · have := HT5.out.tops i hi
                    omega, fun e => by have := sb_lt HK5.out; omega, fun e => by have := sb_lt HKG5.out; omega, fun e => by have := HT5.out.top.1; omega⟩⟩
                clear hT5 hE5 hct0 hct1 hcn
                go_wp2_with (
                  refine Kd.R_append (Kd.int .i64) (w0 := w) w.heap.size (by rfl) (.tmp 48) (.tmp 50) 31 3 (.int .i64 0) 8 rfl Try.underlying31 info3 rfl (by decide) (by omega) (.slice A4 O.length c4) O (b : Int) [.int .i64 (b : Int)] (fun q => ¬ TbT Gb rb j q ∧ q ≠ tb ∧ q ≠ w.heap.size ∧ q ≠ R) (fun _ => False) rfl rfl ?aP (fun _ hk => hk.elim) ?aF ?aO ?aB ?aS ?aL ?_
                  (case aP => exact rfl)
                  (case aF => exact HFR.out)
                  (case aO => exact HR5.out)
                  (case aB => exact HB5.out)
                  (case aS => exact HB5.out.size)
                  (case aL => omega)
                  intro v1 w6 ho hb hg hat
                  have HR6 := Aside0.mk ho
                  have HB6 := Aside0.mk hb
                  have HG6 := Aside0.mk hg
                  clear ho hb hg hat)
                have HOB : Aside0 (∀ q_, (Value.slice A4 O.length c4).ownBlock = some q_ → ¬ TbT Gb rb j q_ ∧ q_ ≠ tb ∧ q_ ≠ w.heap.size ∧ q_ ≠ R) := ⟨HR5.out.1⟩
                go_roundw
                case rel =>
                  refine ⟨k + 1, O ++ [(b : Int)], (tElim M g b j).1, gset g b, by go_num, by omega, ⟨?_⟩, ⟨HO.out.1.gset hbn HGB.out, by rw [List.length_append, HO.out.2]; rfl⟩, ⟨HT5.out.keep HG6.out.size ?_ ?_ (fun i hi => ?_)⟩, HR6, ⟨(HG6.out.block _ (sb_lt HK5.out) (fun e => (HOB.out _ e.symm).2.1 rfl)).trans HK5.out⟩, ⟨(HG6.out.block _ (sb_lt HKG5.out) (fun e => (HOB.out _ e.symm).2.2.1 rfl)).trans HKG5.out⟩, HB6⟩
                  · rw [← HM.out, List.append_assoc]
                    congr 1
                    rw [show j - k = (j - (k + 1)) + 1 by omega]
                    conv => rhs; unfold rminGo
                    rw [HBE.out]
                    rfl
                  · exact HG6.out.block _ HT5.out.top.1 (fun e => (HOB.out _ e.symm).2.2.2 rfl)
                  · exact HG6.out.block _ HT5.out.top.2 (fun e => (HOB.out _ e.symm).1 (.inl rfl))
                  · exact HG6.out.block _ (HT5.out.tops i hi) (fun e => (HOB.out _ e.symm).1 (.inr ⟨i, hi, rfl⟩))
                case measure => simp [intOf]; omega
          · have hk2 : k = n := by omega
            subst hk2
            have hfin : O = rminGo k k (stM l0_1 l0_1.length) (fun _ => false) := by
              have h1 := HM.out
              rw [Nat.sub_self] at h1
              simpa [rminGo] using h1
            have HFI := Aside0.mk hfin
            clear hfin
            go_wp2
            go_ret
            exact ⟨_, rfl, by rw [← HFI.out]; exact Kd.R_mono HR.out (fun _ _ => trivial), HBW.out⟩
    · have hms : rminS a0_0 l0_1 = [] := if_neg hc
      rw [hms]
      have HNE := Aside0.mk hc
      clear hc hms
      go_enter Try.func38, Try.ntmps38
      generalize hcg : chk a0_0 l0_1 = cc at HNE HFC
      have hcc : (decide (cc = 0)) = false := by simpa using HNE.out
      have hcc2 : ¬ cc = 0 := HNE.out
      clear hcg
      go_wp2_with (
        refine goesL_ (some 9) rfl rfl Try.func23 (by kernel_rfl) rfl #[.agg #[.int .i64 a0_0, .slice A0_1 l0_1.length c0_1]] rfl byL ?_
        refine (mapmakerref37_Check.calls kc a0_0 A0_1 c0_1 l0_1 cc _ (Kd.C_alloc HC0.out _) hc0_1 HFC.out).mono ?_
        rintro e w1 ⟨rfl, hb⟩
        refine ⟨_, rfl, ?_⟩
        have HB1 := Aside0.mk (below_step (below_alloc (Below.refl w.heap.size w) _) hb)
        clear hb)
      go_ret
      exact ⟨_, rfl, Kd.R_nil _ _ _ _ _, HB1.out⟩
  · cases h
end Go.Proofs.Ytnnknbghfbjcnaa.Print
