/- TopResumed answers true whatever the input, and the input reads as it did. Its condition: the listed tables of the library hold what they hold. -/
import Derived.Test.YtmjllchdhcdinaaGreatDoorX22
import Derived.Test.YtmjllchdhcdinaaGreatDoorTie
import Derived.Test.YtmjllchdhcdinaaGreatDoorCards
import Derived.SevenTiedAt
set_option linter.unusedVariables false
set_option linter.unusedSimpArgs false
set_option maxRecDepth 100000
set_option maxHeartbeats 8000000
namespace Go.Proofs.YtmjllchdhcdinaaGreatDoor
section
open Go
theorem topResumed_card : Rows.TopResumedCardSaid :=
 Claim7.holds_tied_plain_at .later [] [.data, .data, .data, .data, .sentinel, .sentinel, .pinned] true (true, "3b15e427403326c3b1dfcacad8c5bd9e2ebb35e7d56e232deac138db1fb207dd") true
  topResumed_holds (fun _ h => by cases h) (by kernel_rfl) (fun _ h => by cases h) topResumed_row_tie rfl ⟨rfl,rfl⟩ (by kernel_rfl) rfl
  (fun f fn hf hfn => by
   obtain rfl : f = 3 := Option.some.inj ((show Tryz.prog.funcNamed "sentinel/sentineltop.TopResumed" = some 3 by kernel_rfl).symm.trans hf) |>.symm
   obtain rfl : fn = Tryz.f3 := (Option.some.inj (Tryz.func3.symm.trans hfn)).symm
   exact ⟨by kernel_rfl,fun j t ht => by
    rw [Tryz.params3] at ht
    have hm : t ∈ [25,29,26,26] := by simpa using Array.mem_of_getElem? ht
    have hall : ([25,29,26,26].all fun u => !Tryz.prog.wantsStandIn u) = true := by kernel_rfl
    exact (show Tryz.prog.wantsStandIn t = false by simpa using List.all_eq_true.1 hall t hm)⟩)
  (by kernel_rfl)
#print axioms topResumed_card
end
end Go.Proofs.YtmjllchdhcdinaaGreatDoor
