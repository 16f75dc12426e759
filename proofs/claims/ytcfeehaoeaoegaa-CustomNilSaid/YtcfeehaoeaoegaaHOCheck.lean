/- The call of order.Check: the first error of any list as an order of n vertices. -/
import Derived.Test.YtcfeehaoeaoegaaPrint0
import Derived.Test.YtcfeehaoeaoegaaHXMap
import Derived.Test.YtcfeehaoeaoegaaHSets
import Derived.LoopTactic
namespace Go.Proofs.Ytcfeehaoeaoegaa.Print
open Go.RowKit Go.Proofs.YtcfeehaoeaoegaaW.PrintWords Go.Proofs.YtcfeehaoeaoegaaW.PrintLast Go.Proofs.YtcfeehaoeaoegaaW.PrintMore
set_option linter.unusedVariables false
set_option linter.unusedSimpArgs false

/-- The first error of the rest of an order, behind what was seen. -/
def ordGo (n len : Int) : List Int → List Int → Int
  | _, [] => if len < n then 12 else 0
  | seen, v :: r => if v < 0 then 2 else if v ≥ n then 2 else if v ∈ seen then 7 else ordGo n len (v :: seen) r
def order_Check.f (a0 : Int) (l1 : List Int) : Option Int := some (ordGo a0 l1.length [] l1)
/-- The map holds what was seen. -/
def Seen (m : List (Int × Bool)) (seen : List Int) : Prop := ∀ v, (mget m v).getD false = decide (v ∈ seen)
theorem Seen.put {m : List (Int × Bool)} {seen : List Int} (h : Seen m seen) (v : Int) : Seen (mput m v true) (v :: seen) := by
  intro u
  rw [mget_mput]
  by_cases e : v = u
  · simp [e]
  · have e' : ¬ u = v := fun x => e x.symm
    rw [if_neg e, h u]
    simp [e']
theorem zeroBool_ (w : World) : (zeroValue 4).run Try.prog w = .ok (Value.bool false) w := by kernel_rfl
theorem oKey : KeyKind Try.prog 3 (Value.int .i64) := intKey Try.underlying3

set_option maxHeartbeats 1600000 in
set_option maxRecDepth 100000 in
theorem order_Check.calls (a0 : Int) (A1 : Option Addr) (c1 : Nat) (l1 : List Int) (r : Int) (w : World) (hr1 : Kd.C (Kd.int .i64) w A1 l1.length l1) (hc1 : l1.length ≤ c1) (h : order_Check.f a0 l1 = some r) :
    Calls Try.prog 51 #[.int .i64 a0, .slice A1 l1.length c1] w fun e w' => e = .returned (.int .i64 r) ∧ Below w.heap.size w w' := by
  have H := Option.some.inj h
  clear h
  have hlen : l1.length ≤ 9223372036854775807 := hr1.2.1
  have hmm := @run_makeMap Try.prog
  rcases cells_of_C hr1 with ⟨_, rfl⟩ | ⟨h0, b, off, rfl, hc⟩
  · clear hr1
    by_cases hn : 0 < a0
    · have hr : r = 12 := by
        rw [← H]
        simp [ordGo, hn]
      clear H
      go_enter Try.func51, Try.ntmps51
      go_wp2
      go_loopw [7, 11] (fun v i wr => i = .int .i64 0 ∧ Aside0 (Below w.heap.size w wr)) (fun _ i _ => 0)
      case atStart => exact ⟨rfl, ⟨(Below.refl _ _).alloc (Nat.le_refl _) _⟩⟩
      case round =>
        obtain ⟨rfl, HB⟩ := hrel
        go_wp2
        go_ret
        exact ⟨by rw [hr]; rfl, HB.out⟩
    · have hr : r = 0 := by
        rw [← H]
        simp [ordGo, hn]
      clear H
      go_enter Try.func51, Try.ntmps51
      go_wp2
      go_loopw [7, 11] (fun v i wr => i = .int .i64 0 ∧ Aside0 (Below w.heap.size w wr)) (fun _ i _ => 0)
      case atStart => exact ⟨rfl, ⟨(Below.refl _ _).alloc (Nat.le_refl _) _⟩⟩
      case round =>
        obtain ⟨rfl, HB⟩ := hrel
        go_wp2
        go_ret
        exact ⟨by rw [hr]; rfl, HB.out⟩
  · have HC := Aside0.mk hc
    clear hc hr1
    have HH := Aside0.mk H
    clear H
    go_enter Try.func51, Try.ntmps51
    go_wp2
    go_loopw [7, 11] (fun v i wr => ∃ (k : Nat) (m : List (Int × Bool)), i = .int .i64 k ∧ k ≤ l1.length ∧ Aside0 (MapIs (Value.int .i64) Value.bool wr w.heap.size m) ∧ Aside0 (Seen m (l1.take k).reverse) ∧ Aside0 (ordGo a0 l1.length (l1.take k).reverse (l1.drop k) = r) ∧ Aside0 (Below w.heap.size w wr)) (fun _ i _ => l1.length - (intOf i).toNat)
    case atStart => exact ⟨0, [], rfl, Nat.zero_le _, ⟨MapIs.made w⟩, ⟨fun v => by simp [mget_nil]⟩, ⟨by simpa using HH.out⟩, ⟨(Below.refl _ _).alloc (Nat.le_refl _) _⟩⟩
    case round =>
      obtain ⟨k, m, rfl, hk, HM, HS, HG, HB⟩ := hrel
      by_cases hlt : k < l1.length
      · have hcell : wr.cell? ⟨b, off + k, none⟩ = some (.int .i64 (l1.getD k 0)) := pw_cell_below HB.out (HC.out k hlt)
        have hdrop : Aside0 (l1.drop k = l1.getD k 0 :: l1.drop (k + 1)) := ⟨by rw [List.drop_eq_getElem_cons hlt]; simp [List.getElem?_eq_getElem hlt]⟩
        have htake : Aside0 ((l1.take (k + 1)).reverse = l1.getD k 0 :: (l1.take k).reverse) := ⟨by rw [List.take_succ_eq_append_getElem hlt]; simp [List.getElem?_eq_getElem hlt]⟩
        have HG1 := HG.out
        rw [hdrop.out] at HG1
        unfold ordGo at HG1
        generalize l1.getD k 0 = x at hcell hdrop htake HG1
        by_cases h1 : x < 0
        · rw [if_pos h1] at HG1
          have HR := Aside0.mk HG1
          clear HG1
          go_wp2
          go_ret
          exact ⟨by rw [← HR.out]; rfl, HB.out⟩
        · rw [if_neg h1] at HG1
          by_cases h2 : x ≥ a0
          · rw [if_pos h2] at HG1
            have HR := Aside0.mk HG1
            clear HG1
            go_wp2
            go_ret
            exact ⟨by rw [← HR.out]; rfl, HB.out⟩
          · rw [if_neg h2] at HG1
            by_cases h3 : x ∈ (l1.take k).reverse
            · rw [if_pos h3] at HG1
              have HR := Aside0.mk HG1
              have hg : Aside0 ((mget m x).getD false = true) := ⟨by rw [HS.out x]; simpa using h3⟩
              clear HG1 h3
              go_wp2_with (refine wp_lookup_map oKey Try.underlying104 false zeroBool_ rfl _ _ false rfl HM.out x rfl rfl (.bool true) (by rw [hg.out]; rfl) ?_)
              go_ret
              exact ⟨by rw [← HR.out]; rfl, HB.out⟩
            · rw [if_neg h3] at HG1
              have HR := Aside0.mk HG1
              have hg : Aside0 ((mget m x).getD false = false) := ⟨by rw [HS.out x]; simpa using h3⟩
              have h1' : 0 ≤ x := by omega
              have h2' : x < a0 := by omega
              clear HG1 h3 h1 h2
              go_wp2_with (first | (refine wp_lookup_map oKey Try.underlying104 false zeroBool_ rfl _ _ false rfl HM.out x rfl rfl (.bool false) (by rw [hg.out]; rfl) ?_) | (refine wp_mapUpdate_map oKey Try.underlying104 rfl _ _ _ rfl rfl HM.out x true rfl rfl rfl ?_; intro w1 hm1 hg1; have HM1 := Aside0.mk hm1; have HG1 := Aside0.mk hg1; clear hm1 hg1))
              go_roundw
              case rel => exact ⟨k + 1, _, by go_num, by omega, HM1, ⟨by rw [htake.out]; exact HS.out.put x⟩, ⟨by rw [htake.out]; exact HR.out⟩, ⟨HB.out.grown HG1.out HB.out.size (fun j hj => by injection hj with hj; omega)⟩⟩
              case measure => simp [intOf]; omega
      · have hk2 : k = l1.length := by omega
        have HG1 := HG.out
        rw [hk2, List.drop_length] at HG1
        unfold ordGo at HG1
        by_cases hn : (l1.length : Int) < a0
        · rw [if_pos hn] at HG1
          have HR := Aside0.mk HG1
          clear HG1 hk2
          go_wp2
          go_ret
          exact ⟨by rw [← HR.out]; rfl, HB.out⟩
        · rw [if_neg hn] at HG1
          have HR := Aside0.mk HG1
          clear HG1 hk2
          go_wp2
          go_ret
          exact ⟨by rw [← HR.out]; rfl, HB.out⟩
end Go.Proofs.Ytcfeehaoeaoegaa.Print
