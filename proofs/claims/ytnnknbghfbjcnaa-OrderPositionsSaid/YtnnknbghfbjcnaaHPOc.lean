/- Ranks of an order: the place of each vertex. -/
import Derived.Test.YtnnknbghfbjcnaaHPOa
import Derived.Test.YtnnknbghfbjcnaaHOFill
import Derived.Test.YtnnknbghfbjcnaaF41
namespace Go.Proofs.Ytnnknbghfbjcnaa.Print
open Go.RowKit Go.Proofs.YtnnknbghfbjcnaaW.PrintWords Go.Proofs.YtnnknbghfbjcnaaW.PrintLast Go.Proofs.YtnnknbghfbjcnaaW.PrintMore
set_option linter.unusedVariables false
set_option linter.unusedSimpArgs false

/-- The first i vertices of the list have their places in out. -/
def ranksTo (l : List Int) : Nat → List Int
  | 0 => List.replicate l.length 0
  | i + 1 => (ranksTo l i).set (l.getD i 0).toNat i
theorem ranksTo_length (l : List Int) : ∀ i, (ranksTo l i).length = l.length
  | 0 => by simp [ranksTo]
  | i + 1 => by
    unfold ranksTo
    rw [List.length_set, ranksTo_length l i]
def ranksS (l : List Int) : List Int := if ordGo l.length l.length [] l = 0 then ranksTo l l.length else []
theorem ord_all {n len : Int} : ∀ (r seen : List Int), ordGo n len seen r = 0 → (∀ v ∈ r, 0 ≤ v ∧ v < n) ∧ r.Nodup ∧ (∀ v ∈ r, ¬ v ∈ seen) ∧ ¬ len < n
  | [], seen, h => by
    unfold ordGo at h
    split at h
    · omega
    · rename_i hn
      exact ⟨by simp, List.nodup_nil, by simp, hn⟩
  | v :: r, seen, h => by
    obtain ⟨h1, h2, h3, h4⟩ := ordGo_cons h
    obtain ⟨g1, g2, g3, g4⟩ := ord_all r (v :: seen) h4
    refine ⟨fun x hx => ?_, ?_, fun x hx hs => ?_, g4⟩
    · rcases List.mem_cons.1 hx with rfl | hx
      · exact ⟨h1, h2⟩
      · exact g1 x hx
    · rw [List.nodup_cons]
      exact ⟨fun hx => g3 v hx (by simp), g2⟩
    · rcases List.mem_cons.1 hx with rfl | hx
      · exact h3 hs
      · exact g3 x hx (by simp [hs])
theorem ord_of {n len : Int} : ∀ (r seen : List Int), (∀ v ∈ r, 0 ≤ v ∧ v < n) → r.Nodup → (∀ v ∈ r, ¬ v ∈ seen) → ¬ len < n → ordGo n len seen r = 0
  | [], seen, _, _, _, h => by
    unfold ordGo
    rw [if_neg h]
  | v :: r, seen, h1, h2, h3, h4 => by
    rw [List.nodup_cons] at h2
    have hv := h1 v (by simp)
    unfold ordGo
    rw [if_neg (by omega), if_neg (by omega), if_neg (h3 v (by simp))]
    refine ord_of r (v :: seen) (fun x hx => h1 x (by simp [hx])) h2.2 (fun x hx hs => ?_) h4
    rcases List.mem_cons.1 hs with rfl | hs
    · exact h2.1 hx
    · exact h3 x (by simp [hx]) hs
section
variable (l : List Int) (hl : l.length < 1000000000000)
include hl
theorem order_Ranks.l0_ev (ho : ordGo l.length l.length [] l = 0) : ∀ (d i : Nat), i + d = l.length → Ev (fun k => order_Ranks.l0 k (ranksTo l i) l (l.length : Int) (i : Int)) (ranksTo l l.length)
  | 0, i, h => by
    have hi : i = l.length := by omega
    subst hi
    refine Ev.step (f := fun _ => some (ranksTo l l.length)) (fun k => ?_) (Ev.now _)
    rw [order_Ranks.l0, if_neg (by omega)]
  | d + 1, i, h => by
    have hi : i < l.length := by omega
    have hv := (ord_all l [] ho).1 l[i] (List.getElem_mem hi)
    have hlen := ranksTo_length l i
    refine Ev.step (fun k => ?_) (order_Ranks.l0_ev ho d (i + 1) (by omega))
    rw [order_Ranks.l0, if_pos (by omega), if_pos (by omega), if_pos (by omega), rd_get l hi, if_pos hv.1, if_pos (by rw [hlen]; exact hv.2), wrap_succ (show i < 1000000000000000 by omega)]
    show _ = order_Ranks.l0 k ((ranksTo l i).set (l.getD i 0).toNat i) l _ _
    rw [show l.getD i 0 = l[i] by simp [List.getElem?_eq_getElem hi]]
theorem order_Ranks.ev : Ev (fun k => order_Ranks.f k l) (ranksS l) := by
  unfold ranksS
  simp only [order_Ranks.f, order_Check.f, Option.bind_some]
  by_cases ho : ordGo l.length l.length [] l = 0
  · simp only [ho, if_true]
    refine Ev.congr (fun k => ?_) (order_Ranks.l0_ev l hl ho l.length 0 (by omega))
    rw [if_pos (by omega), if_pos (by omega), Int.toNat_natCast]
    rfl
  · simp only [ho, if_false]
    exact Ev.now _
end
end Go.Proofs.Ytnnknbghfbjcnaa.Print
