/- OrderRanks: the program's Ranks and the reference's answer the same. -/
import Derived.Test.YtnnknbghfbjcnaaHPOc
import Derived.Test.YtnnknbghfbjcnaaF42
import Derived.Test.YtnnknbghfbjcnaaF11
namespace Go.Proofs.Ytnnknbghfbjcnaa.Print
open Go.RowKit Go.Proofs.YtnnknbghfbjcnaaW.PrintWords Go.Proofs.YtnnknbghfbjcnaaW.PrintLast Go.Proofs.YtnnknbghfbjcnaaW.PrintMore
set_option linter.unusedVariables false
set_option linter.unusedSimpArgs false

section
variable (l : List Int) (hl : l.length < 1000000000000)
include hl
theorem mapmakerref39_Ranks.l0_ev (ho : ordGo l.length l.length [] l = 0) : ∀ (d i : Nat), i + d = l.length → Ev (fun k => mapmakerref39_Ranks.l0 k l (i : Int) (ranksTo l i)) (ranksTo l l.length)
  | 0, i, h => by
    have hi : i = l.length := by omega
    subst hi
    refine Ev.step (f := fun _ => some (ranksTo l l.length)) (fun k => ?_) (Ev.now _)
    rw [mapmakerref39_Ranks.l0, if_neg (by omega)]
  | d + 1, i, h => by
    have hi : i < l.length := by omega
    have hv := (ord_all l [] ho).1 l[i] (List.getElem_mem hi)
    have hlen := ranksTo_length l i
    refine Ev.step (fun k => ?_) (mapmakerref39_Ranks.l0_ev ho d (i + 1) (by omega))
    rw [mapmakerref39_Ranks.l0, if_pos (by omega), if_pos (by omega), rd_get l hi, if_pos hv.1, if_pos (by rw [hlen]; exact hv.2), wrap_succ (show i < 1000000000000000 by omega)]
    show _ = mapmakerref39_Ranks.l0 k l _ ((ranksTo l i).set (l.getD i 0).toNat i)
    rw [show l.getD i 0 = l[i] by simp [List.getElem?_eq_getElem hi]]
theorem mapmakerref39_Ranks.ev : Ev (fun k => mapmakerref39_Ranks.f k l) (ranksS l) := by
  unfold ranksS
  simp only [mapmakerref39_Ranks.f]
  refine Ev.bind (mapmakerref39_Check.ev l.length l hl) ?_
  by_cases ho : ordGo l.length l.length [] l = 0
  · simp only [ho, if_true]
    refine Ev.congr (fun k => ?_) (mapmakerref39_Ranks.l0_ev l hl ho l.length 0 (by omega))
    rw [if_pos (by omega), if_pos (by omega), Int.toNat_natCast]
    rfl
  · simp only [ho, if_false]
    exact Ev.now _
end
theorem ranksS_length (l : List Int) : (ranksS l).length ≤ l.length := by
  unfold ranksS
  split
  · rw [ranksTo_length]
    exact Nat.le_refl _
  · simp
theorem OrderRanks_pure : mapmakerlaw39_OrderRanks.Pure := by
  intro l _
  refine Ev.rounds ?_
  unfold mapmakerlaw39_OrderRanks.f
  rw [lives39]
  by_cases hl : (l.length : Int) > 40
  · simp only [hl, if_true, Option.bind_some]
    exact Ev.now _
  · have hl2 : l.length < 1000000000000 := by omega
    have h3 := ranksS_length l
    simp only [hl, if_false, Option.bind_some]
    refine Ev.bind (order_Ranks.ev l hl2) ?_
    refine Ev.bind (mapmakerref39_Ranks.ev l hl2) ?_
    refine Ev.bind (ints39 (ranksS l) (by omega)) ?_
    simp only [if_true]
    exact Ev.now _
end Go.Proofs.Ytnnknbghfbjcnaa.Print
