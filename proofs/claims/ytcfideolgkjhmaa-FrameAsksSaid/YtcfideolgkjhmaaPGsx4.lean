-- Written by gprint.py, this session's own program, out of Lean's print of the translation: functions with the same answers, and proofs that the Go code comes to them. Lean checks it all.
import Derived.Test.YtcfideolgkjhmaaPGsx0
namespace Go.Proofs.Ytcfideolgkjhmaa.PGs
open Go.RowKit Go.Proofs.YtcfideolgkjhmaaW.PrintWords Go.Proofs.YtcfideolgkjhmaaW.PrintLast Go.Proofs.YtcfideolgkjhmaaW.PrintMore Go.Proofs.YtcfideolgkjhmaaG
attribute [local go_sem] max2_int min2_int max_two min_two max_three min_three max_four min_four   -- for this text's walks alone
set_option linter.unusedVariables false
set_option linter.unusedSimpArgs false

def bytes_of_9_22.f (a0 : ByteArray) : Option (List Int) := if a0.size ≤ 9223372036854775807 then some (bytesOf a0) else none
theorem bytes_of_9_22.calls (a0 : ByteArray) (r : List Int) (w : World) (h : bytes_of_9_22.f a0 = some r) : YieldsTo Try.prog (convert 9 22 (.string a0)) w fun e w' => ∃ v0_ : Value, e = .returned v0_ ∧ Kd.V (Kd.int .u8) 5 w' w.heap.size (fun k_ => (w.heap.size ≤ k_)) v0_ r ∧ Below w.heap.size w w' := by
  unfold bytes_of_9_22.f at h
  by_cases hn : a0.size ≤ 9223372036854775807
  · rw [if_pos hn] at h
    obtain rfl := Option.some.inj h
    exact bytes_yields Try.underlying9 Try.underlying22 Try.underlying5 a0 hn w
  · rw [if_neg hn] at h
    cases h

end Go.Proofs.Ytcfideolgkjhmaa.PGs
